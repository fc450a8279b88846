/-
  No cell of these rows narrows 'for every input' (looked for: loops, veiled, ifaces, maps, wideKeys, modest, calm, conditions, laid).
  DERIVED. THE GIVEN ROWS OF THIS SEAT. 7 by the template 'for every input the law returns true; each argument reads behind the call as it read before'; 0 by the template 'total and deterministic' (their statements: YtckdbgejpagkpaaTotals.lean).
  GIVEN WITH THE SEED: the statements are not yours to turn. If you find one false, say at which input.
  Laid BY PROGRAM, IN A SANDBOX (cutbox-rows.mjs): the forced cells as the released guide's own fill.sh prints them over the translation 483de7030feb1922… (all of the seat's roots in one cut). By AI agents, Wed Nov 11 2026. No macro, syntax, notation, axiom, sorry.
-/
import Derived.Test.YtckdbgejpagkpaaChecked
import GoSem.Claim
import GoSem.ClaimJoined
import GoSem.ClaimMapViews
import Derived.JoinedTies
import Derived.KernelRfl
namespace Go.Proofs.Ytckdbgejpagkpaa
/- THE CELL 'sum', in the pinned program and in every row, IS THE sha256 OF THE DUMP (.gsa) THAT YtckdbgejpagkpaaProg.lean LOADS. Nothing in Lean hashes anything: it is a label: what it is worth is what the hold of that sum in a sandbox is worth. -/
noncomputable def Try.pinned : Pinned := { name := "ytckdbgejpagkpaa", sum := "483de7030feb1922ba0de60949b6c2268ed932276610625f1b8b3493d887aa80", checked := Try.checked }
namespace Rows
def none {H : Type} : Left H := { results := [], args := [] }

/-- 'ferrylaw02.RealRounds': WHATEVER THE INPUT: true; the input reads as it did. -/
def realRoundsSpec : ChangeSpec := { name := "realRounds", fn := fun _ => fun
  | [d] => { results := [.lit (.bool true)], args := [d] }
  | _ => none }
def realRoundsRow : OpenClaim := { program := "ytckdbgejpagkpaa", sum := "483de7030feb1922ba0de60949b6c2268ed932276610625f1b8b3493d887aa80", func := "ferry/ferrylaw02.RealRounds", spec := "realRounds", inPlace := ["math.Float64frombits", "math.archTrunc", "math.Float64bits", "math.archMin", "math.archFloor", "math.archCeil", "math.RoundToEven"], unfollowed := true, recurses := true, apart := false }
def RealRoundsSaid : Prop := realRoundsRow.holds Try.pinned (OpenSpec.ofChange realRoundsSpec)

/-- ITS FALSE NEIGHBOUR: 'it returns false'. Refute it at one input. -/
def realRoundsWrong : ChangeSpec := { name := "realRounds", fn := fun _ => fun
  | [d] => { results := [.lit (.bool false)], args := [d] }
  | _ => none }
def RealRoundsWrongFalsely : Prop := realRoundsRow.holds Try.pinned (OpenSpec.ofChange realRoundsWrong)

/-- 'ferrylaw02.RealSums': WHATEVER THE INPUT: true; the input reads as it did. -/
def realSumsSpec : ChangeSpec := { name := "realSums", fn := fun _ => fun
  | [d1, d2] => { results := [.lit (.bool true)], args := [d1, d2] }
  | _ => none }
def realSumsRow : OpenClaim := { program := "ytckdbgejpagkpaa", sum := "483de7030feb1922ba0de60949b6c2268ed932276610625f1b8b3493d887aa80", func := "ferry/ferrylaw02.RealSums", spec := "realSums", inPlace := ["math.Float64frombits", "math.Float64bits", "math.archTrunc", "math.archMin", "math.archFloor", "math.archCeil", "math.RoundToEven"], unfollowed := true, recurses := true, apart := false }
def RealSumsSaid : Prop := realSumsRow.holds Try.pinned (OpenSpec.ofChange realSumsSpec)

/-- ITS FALSE NEIGHBOUR: 'it returns false'. Refute it at one input. -/
def realSumsWrong : ChangeSpec := { name := "realSums", fn := fun _ => fun
  | [d1, d2] => { results := [.lit (.bool false)], args := [d1, d2] }
  | _ => none }
def RealSumsWrongFalsely : Prop := realSumsRow.holds Try.pinned (OpenSpec.ofChange realSumsWrong)

/-- 'ferrylaw02.RealOrders': WHATEVER THE INPUT: true; the input reads as it did. -/
def realOrdersSpec : ChangeSpec := { name := "realOrders", fn := fun _ => fun
  | [d1, d2] => { results := [.lit (.bool true)], args := [d1, d2] }
  | _ => none }
def realOrdersRow : OpenClaim := { program := "ytckdbgejpagkpaa", sum := "483de7030feb1922ba0de60949b6c2268ed932276610625f1b8b3493d887aa80", func := "ferry/ferrylaw02.RealOrders", spec := "realOrders", inPlace := ["math.Float64frombits", "math.Float64bits", "math.archTrunc", "math.archMin", "math.archFloor", "math.archCeil", "math.RoundToEven"], unfollowed := true, recurses := true, apart := false }
def RealOrdersSaid : Prop := realOrdersRow.holds Try.pinned (OpenSpec.ofChange realOrdersSpec)

/-- ITS FALSE NEIGHBOUR: 'it returns false'. Refute it at one input. -/
def realOrdersWrong : ChangeSpec := { name := "realOrders", fn := fun _ => fun
  | [d1, d2] => { results := [.lit (.bool false)], args := [d1, d2] }
  | _ => none }
def RealOrdersWrongFalsely : Prop := realOrdersRow.holds Try.pinned (OpenSpec.ofChange realOrdersWrong)

/-- 'ferrylaw02.RealPicks': WHATEVER THE INPUT: true; the input reads as it did. -/
def realPicksSpec : ChangeSpec := { name := "realPicks", fn := fun _ => fun
  | [d1, d2, d3, d4] => { results := [.lit (.bool true)], args := [d1, d2, d3, d4] }
  | _ => none }
def realPicksRow : OpenClaim := { program := "ytckdbgejpagkpaa", sum := "483de7030feb1922ba0de60949b6c2268ed932276610625f1b8b3493d887aa80", func := "ferry/ferrylaw02.RealPicks", spec := "realPicks", inPlace := ["math.Float64frombits", "math.archTrunc", "math.Float64bits", "math.archMin", "math.archMax", "math.archFloor", "math.archCeil", "math.RoundToEven"], unfollowed := true, recurses := true, apart := false }
def RealPicksSaid : Prop := realPicksRow.holds Try.pinned (OpenSpec.ofChange realPicksSpec)

/-- ITS FALSE NEIGHBOUR: 'it returns false'. Refute it at one input. -/
def realPicksWrong : ChangeSpec := { name := "realPicks", fn := fun _ => fun
  | [d1, d2, d3, d4] => { results := [.lit (.bool false)], args := [d1, d2, d3, d4] }
  | _ => none }
def RealPicksWrongFalsely : Prop := realPicksRow.holds Try.pinned (OpenSpec.ofChange realPicksWrong)

/-- 'ferrylaw02.RealWhole': WHATEVER THE INPUT: true; the input reads as it did. -/
def realWholeSpec : ChangeSpec := { name := "realWhole", fn := fun _ => fun
  | [d1, d2, d3, d4] => { results := [.lit (.bool true)], args := [d1, d2, d3, d4] }
  | _ => none }
def realWholeRow : OpenClaim := { program := "ytckdbgejpagkpaa", sum := "483de7030feb1922ba0de60949b6c2268ed932276610625f1b8b3493d887aa80", func := "ferry/ferrylaw02.RealWhole", spec := "realWhole", inPlace := ["math.Float64bits", "math.Float64frombits", "math.archTrunc", "math.archFloor", "math.archCeil", "math.RoundToEven", "math.archMin", "math.archMax"], unfollowed := true, recurses := true, apart := false }
def RealWholeSaid : Prop := realWholeRow.holds Try.pinned (OpenSpec.ofChange realWholeSpec)

/-- ITS FALSE NEIGHBOUR: 'it returns false'. Refute it at one input. -/
def realWholeWrong : ChangeSpec := { name := "realWhole", fn := fun _ => fun
  | [d1, d2, d3, d4] => { results := [.lit (.bool false)], args := [d1, d2, d3, d4] }
  | _ => none }
def RealWholeWrongFalsely : Prop := realWholeRow.holds Try.pinned (OpenSpec.ofChange realWholeWrong)

/-- 'ferrylaw02.RealSigns': WHATEVER THE INPUT: true; the input reads as it did. -/
def realSignsSpec : ChangeSpec := { name := "realSigns", fn := fun _ => fun
  | [d1, d2] => { results := [.lit (.bool true)], args := [d1, d2] }
  | _ => none }
def realSignsRow : OpenClaim := { program := "ytckdbgejpagkpaa", sum := "483de7030feb1922ba0de60949b6c2268ed932276610625f1b8b3493d887aa80", func := "ferry/ferrylaw02.RealSigns", spec := "realSigns", inPlace := ["math.Float64frombits", "math.Float64bits", "math.archTrunc", "math.archMin", "math.archFloor", "math.archCeil", "math.RoundToEven", "math.archMax"], unfollowed := true, recurses := true, apart := false }
def RealSignsSaid : Prop := realSignsRow.holds Try.pinned (OpenSpec.ofChange realSignsSpec)

/-- ITS FALSE NEIGHBOUR: 'it returns false'. Refute it at one input. -/
def realSignsWrong : ChangeSpec := { name := "realSigns", fn := fun _ => fun
  | [d1, d2] => { results := [.lit (.bool false)], args := [d1, d2] }
  | _ => none }
def RealSignsWrongFalsely : Prop := realSignsRow.holds Try.pinned (OpenSpec.ofChange realSignsWrong)

/-- 'ferrylaw02.RealTells': WHATEVER THE INPUT: true; the input reads as it did. -/
def realTellsSpec : ChangeSpec := { name := "realTells", fn := fun _ => fun
  | [d1, d2] => { results := [.lit (.bool true)], args := [d1, d2] }
  | _ => none }
def realTellsRow : OpenClaim := { program := "ytckdbgejpagkpaa", sum := "483de7030feb1922ba0de60949b6c2268ed932276610625f1b8b3493d887aa80", func := "ferry/ferrylaw02.RealTells", spec := "realTells", inPlace := ["math.Float64frombits", "math.Float64bits", "math.archTrunc", "math.archMin", "math.archFloor", "math.archCeil", "math.RoundToEven"], unfollowed := true, recurses := true, apart := false }
def RealTellsSaid : Prop := realTellsRow.holds Try.pinned (OpenSpec.ofChange realTellsSpec)

/-- ITS FALSE NEIGHBOUR: 'it returns false'. Refute it at one input. -/
def realTellsWrong : ChangeSpec := { name := "realTells", fn := fun _ => fun
  | [d1, d2] => { results := [.lit (.bool false)], args := [d1, d2] }
  | _ => none }
def RealTellsWrongFalsely : Prop := realTellsRow.holds Try.pinned (OpenSpec.ofChange realTellsWrong)

/- THE SECOND FORM. 'bulk': how many values and letters a reading holds, each counted each time it is reached (what is shared counts as often as it is met; a slice's spare places count too). A statement '..UptoSaid' is the law's where the arguments, and the package variables that the reading takes, are together of bulk at most 1048576: NARROWER than '..Said'. Prove '..Said' where nothing that the law and all that it calls make is longer than what came in: it says more and counts as full. Else prove '..UptoSaid'. A law counts once. -/
mutual
def uptoBulk {H : Type} : DataW H → Nat
  | .lit (.string bytes) => bytes.length + 1
  | .lit _ => 1
  | .nil => 1
  | .ptr d => uptoBulk d + 1
  | .slice elems spare => uptoBulkAll elems + uptoBulkAll spare + 1
  | .agg parts => uptoBulkAll parts + 1
  | .iface _ d => uptoBulk d + 1
  | .map entries => uptoBulkEntries entries + 1
  | .held _ => 1
def uptoBulkAll {H : Type} : List (DataW H) → Nat
  | [] => 0
  | d :: r => uptoBulk d + uptoBulkAll r
def uptoBulkEntries {H : Type} : List (Lit × DataW H) → Nat
  | [] => 0
  | x :: r => uptoBulkEntry x + uptoBulkEntries r
def uptoBulkEntry {H : Type} : Lit × DataW H → Nat
  | (.string bytes, d) => bytes.length + uptoBulk d + 1
  | (_, d) => uptoBulk d + 1
 end
def uptoSmall : (H : Type) → List (DataW H) → Bool := fun _ ds => decide (uptoBulkAll ds ≤ 1048576)
def OpenSpec.upto (s : _root_.Go.ChangeSpec) : _root_.Go.OpenSpec := { _root_.Go.OpenSpec.ofChange s with cond := some uptoSmall }

/-- 'ferrylaw02.RealRounds', WHERE WHAT IT READS IS OF BULK AT MOST 1048576: true; the input reads as it did. -/
def realRoundsUptoRow : OpenClaim := { program := "ytckdbgejpagkpaa", sum := "483de7030feb1922ba0de60949b6c2268ed932276610625f1b8b3493d887aa80", func := "ferry/ferrylaw02.RealRounds", spec := "realRounds", inPlace := ["math.Float64frombits", "math.archTrunc", "math.Float64bits", "math.archMin", "math.archFloor", "math.archCeil", "math.RoundToEven"], unfollowed := true, recurses := true, apart := false, narrowed := true }
def RealRoundsUptoSaid : Prop := realRoundsUptoRow.holds Try.pinned (OpenSpec.upto realRoundsSpec)

/-- 'ferrylaw02.RealSums', WHERE WHAT IT READS IS OF BULK AT MOST 1048576: true; the input reads as it did. -/
def realSumsUptoRow : OpenClaim := { program := "ytckdbgejpagkpaa", sum := "483de7030feb1922ba0de60949b6c2268ed932276610625f1b8b3493d887aa80", func := "ferry/ferrylaw02.RealSums", spec := "realSums", inPlace := ["math.Float64frombits", "math.Float64bits", "math.archTrunc", "math.archMin", "math.archFloor", "math.archCeil", "math.RoundToEven"], unfollowed := true, recurses := true, apart := false, narrowed := true }
def RealSumsUptoSaid : Prop := realSumsUptoRow.holds Try.pinned (OpenSpec.upto realSumsSpec)

/-- 'ferrylaw02.RealOrders', WHERE WHAT IT READS IS OF BULK AT MOST 1048576: true; the input reads as it did. -/
def realOrdersUptoRow : OpenClaim := { program := "ytckdbgejpagkpaa", sum := "483de7030feb1922ba0de60949b6c2268ed932276610625f1b8b3493d887aa80", func := "ferry/ferrylaw02.RealOrders", spec := "realOrders", inPlace := ["math.Float64frombits", "math.Float64bits", "math.archTrunc", "math.archMin", "math.archFloor", "math.archCeil", "math.RoundToEven"], unfollowed := true, recurses := true, apart := false, narrowed := true }
def RealOrdersUptoSaid : Prop := realOrdersUptoRow.holds Try.pinned (OpenSpec.upto realOrdersSpec)

/-- 'ferrylaw02.RealPicks', WHERE WHAT IT READS IS OF BULK AT MOST 1048576: true; the input reads as it did. -/
def realPicksUptoRow : OpenClaim := { program := "ytckdbgejpagkpaa", sum := "483de7030feb1922ba0de60949b6c2268ed932276610625f1b8b3493d887aa80", func := "ferry/ferrylaw02.RealPicks", spec := "realPicks", inPlace := ["math.Float64frombits", "math.archTrunc", "math.Float64bits", "math.archMin", "math.archMax", "math.archFloor", "math.archCeil", "math.RoundToEven"], unfollowed := true, recurses := true, apart := false, narrowed := true }
def RealPicksUptoSaid : Prop := realPicksUptoRow.holds Try.pinned (OpenSpec.upto realPicksSpec)

/-- 'ferrylaw02.RealWhole', WHERE WHAT IT READS IS OF BULK AT MOST 1048576: true; the input reads as it did. -/
def realWholeUptoRow : OpenClaim := { program := "ytckdbgejpagkpaa", sum := "483de7030feb1922ba0de60949b6c2268ed932276610625f1b8b3493d887aa80", func := "ferry/ferrylaw02.RealWhole", spec := "realWhole", inPlace := ["math.Float64bits", "math.Float64frombits", "math.archTrunc", "math.archFloor", "math.archCeil", "math.RoundToEven", "math.archMin", "math.archMax"], unfollowed := true, recurses := true, apart := false, narrowed := true }
def RealWholeUptoSaid : Prop := realWholeUptoRow.holds Try.pinned (OpenSpec.upto realWholeSpec)

/-- 'ferrylaw02.RealSigns', WHERE WHAT IT READS IS OF BULK AT MOST 1048576: true; the input reads as it did. -/
def realSignsUptoRow : OpenClaim := { program := "ytckdbgejpagkpaa", sum := "483de7030feb1922ba0de60949b6c2268ed932276610625f1b8b3493d887aa80", func := "ferry/ferrylaw02.RealSigns", spec := "realSigns", inPlace := ["math.Float64frombits", "math.Float64bits", "math.archTrunc", "math.archMin", "math.archFloor", "math.archCeil", "math.RoundToEven", "math.archMax"], unfollowed := true, recurses := true, apart := false, narrowed := true }
def RealSignsUptoSaid : Prop := realSignsUptoRow.holds Try.pinned (OpenSpec.upto realSignsSpec)

/-- 'ferrylaw02.RealTells', WHERE WHAT IT READS IS OF BULK AT MOST 1048576: true; the input reads as it did. -/
def realTellsUptoRow : OpenClaim := { program := "ytckdbgejpagkpaa", sum := "483de7030feb1922ba0de60949b6c2268ed932276610625f1b8b3493d887aa80", func := "ferry/ferrylaw02.RealTells", spec := "realTells", inPlace := ["math.Float64frombits", "math.Float64bits", "math.archTrunc", "math.archMin", "math.archFloor", "math.archCeil", "math.RoundToEven"], unfollowed := true, recurses := true, apart := false, narrowed := true }
def RealTellsUptoSaid : Prop := realTellsUptoRow.holds Try.pinned (OpenSpec.upto realTellsSpec)

end Rows
end Go.Proofs.Ytckdbgejpagkpaa
