/-
  Names: rows of numbers of the call's own.
-/
import Derived.Test.YtlifdfkconklfaaDoorFNmW
namespace Go.Proofs.YtlifdfkconklfaaDoor
open Go Go.RowKit
set_option linter.unusedVariables false
set_option linter.unusedSimpArgs false

def rowI (k : IntKind) (xs : List Nat) : Array Value := (xs.map fun n => Value.int k (n : Nat)).toArray
theorem rowI_size (k : IntKind) (xs : List Nat) : (rowI k xs).size = xs.length := by simp [rowI]
theorem rowI_at {k : IntKind} {xs : List Nat} {i : Nat} (h : i < xs.length) : (rowI k xs)[i]? = some (.int k (xs[i] : Nat)) := by simp [rowI, h]
theorem rowI_set (k : IntKind) (xs : List Nat) (i n : Nat) : (rowI k xs).setIfInBounds i (.int k (n : Nat)) = rowI k (xs.set i n) := by
  unfold rowI
  rw [List.setIfInBounds_toArray]
  congr 1
  rw [List.map_set]
theorem rowI_made (k : IntKind) (n : Nat) : madeCells #[.int k 0] n = rowI k (List.replicate n 0) := by
  refine Array.ext_getElem? fun i => ?_
  by_cases h : i < n
  · rw [rowI_at (by simpa using h)]; simp [madeCells, h, Nat.mod_one]
  · simp [madeCells, rowI, h]
theorem rowI_setCell {w : World} {g : Nat} {k : IntKind} {xs : List Nat} {T : TypeId} {fr : Nat × Nat} (h : w.heap[g]? = some (.cells (rowI k xs) T fr)) (i n : Nat) :
    (w.setCell ⟨g, i, none⟩ (.int k (n : Nat))).heap[g]? = some (.cells (rowI k (xs.set i n)) T fr) := by
  rw [heap_set h, rowI_set]
end Go.Proofs.YtlifdfkconklfaaDoor
