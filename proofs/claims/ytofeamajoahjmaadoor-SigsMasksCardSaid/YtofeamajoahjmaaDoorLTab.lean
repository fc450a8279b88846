/-
  Go's table of TrailingZeros64, as its text lays it: what the condition gives the walks; a world that meets it.
-/
import Derived.Test.YtofeamajoahjmaaDoorFSgs
import Derived.Test.YtofeamajoahjmaaDoorRows
import Derived.Test.YtofeamajoahjmaaDoorTie
import Derived.ProofKit
import Derived.LaidMore
import Derived.OpenShut
import Derived.Stop.Joined
import Derived.SevenTiedAt
namespace Go.Proofs.YtofeamajoahjmaaDoor
open Go Go.ChangeShapes Go.WideShapes Go.ChangeAt Go.WideMaps Go.WideElems Go.RowKit
set_option linter.unusedVariables false
set_option linter.unusedSimpArgs false
def tabLaid : List (String × DataW Unit) := [("math/bits.deBruijn64tab", Rows.laid_math_bits_deBruijn64tab)]
theorem gTab : Tryd.prog.globalNamed "math/bits.deBruijn64tab" = some 0 := by kernel_rfl
theorem tTab : (Tryd.prog.globals[0]?).map (·.type) = some 93 := by kernel_rfl
theorem tab_met (os : Os) (args : Array Value) : laidMetH Tryd.prog tabLaid ((World.doorLaid Tryd.prog 4000 os).forCall (fun _ _ => 0) ⟨#[], args, []⟩).memory :=
  laidMetH_of_parts3 (fuel := 8) (laidMet_of_run' 8 (by kernel_rfl) (by kernel_rfl)) (by kernel_rfl) (by kernel_rfl)
theorem tab_laid {W : World} (h : laidMetH Tryd.prog tabLaid W) : TabAt W := by
  rw [MakeChecks.laidMetH_plain _ _ _ (by kernel_rfl)] at h
  obtain ⟨ps, ⟨g0, t0, cs0, f0, p0, q0, hg0, ht0, hv0, hd0, _, _⟩, _, _⟩ := h
  obtain rfl := Option.some.inj (gTab.symm.trans hg0)
  obtain rfl := Option.some.inj (tTab.symm.trans ht0)
  obtain ⟨xs, m1, rfl, hx1, hlen, hn3, hel⟩ := DataW.trod_array Tryd.underlying93 hd0
  have c5 : Tryd.prog.cellsOf 5 = 1 := by kernel_rfl
  intro j hj
  have hj' := hel j (by omega)
  obtain ⟨y, hy⟩ : ∃ y, xs[j]? = some y := ⟨xs[j]'(by omega), List.getElem?_eq_getElem _⟩
  rw [hy, c5] at hj'
  obtain ⟨n, e1, e2, _⟩ := DataW.trod_int Tryd.underlying5 hj'
  have hcell := World.var?_cell hg0 hv0 j
  have hL : (Rows.laid_math_bits_deBruijn64tab : DataW Unit) = .agg (Lib.deBruijn64tab.map fun n => .lit (.int .u8 (n : Nat))) := by kernel_rfl
  simp only [Prod.mk.injEq, hL, DataW.agg.injEq] at hx1
  have h1 : (xs.map (fun x => x.1))[j]? = some y.1 := by rw [List.getElem?_map, hy]; rfl
  rw [← hx1.1, List.getElem?_map] at h1
  obtain ⟨m, hm⟩ : ∃ m, Lib.deBruijn64tab[j]? = some m := ⟨Lib.deBruijn64tab[j]'(by simp [Lib.deBruijn64tab]; omega), List.getElem?_eq_getElem _⟩
  rw [hm] at h1
  rw [e2] at h1
  have hnm : n = (m : Int) := by simpa using h1.symm
  rw [List.getD_eq_getElem?_getD, hm, hcell]
  have e3 : cs0.toList[j]? = some (.int .u8 n) := by
    have := congrArg (fun l => l[0]?) e1
    simpa using this
  rw [← Array.getElem?_toList, e3, hnm]
  rfl
end Go.Proofs.YtofeamajoahjmaaDoor
