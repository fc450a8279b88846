/-
  The reference's layer 1: a number's bytes, by a row of bytes of the call's own.
-/
import Derived.Test.YtbaelhaajplbnaaFPut
import Derived.OwnWalk
import Derived.Laws.OwnMore
import Derived.Laws.IdiomStrings
namespace Go.Proofs.Ytbaelhaajplbnaa
open Go Go.RowKit
set_option linter.unusedVariables false
set_option linter.unusedSimpArgs false

def byteVs (l : List UInt8) : List Value := l.map fun b => .int .u8 b.toNat
theorem byteVs_length (l : List UInt8) : (byteVs l).length = l.length := by simp [byteVs]
theorem byteVs_get (l : List UInt8) (j : Nat) (h : j < l.length) : (byteVs l)[j]? = some (.int .u8 (l[j].toNat : Int)) := by simp [byteVs, h]
theorem own_byte {w : World} {B g n cap : Nat} {l : List UInt8} (h : w.ownsRow B 5 1 (.slice (some ⟨g, 0, none⟩) n cap) n (byteVs l)) (j : Nat) (hj : j < l.length) : w.cell? ((⟨g, 0, none⟩ : Addr).add j) = some (.int .u8 (l[j].toNat : Int)) := by
  have hn : n = l.length := by have := h.1; rw [byteVs_length] at this; omega
  have hadd : (⟨g, 0, none⟩ : Addr).add j = ⟨g, j, none⟩ := by unfold Addr.add; split <;> simp_all
  rw [hadd, h.cellAt j (by omega), byteVs_get l j hj]
theorem zeros_row (n : Nat) : (madeCells (Value.int .u8 0).cells (n * 1)).toList = byteVs (List.replicate n 0) := by
  apply List.ext_getElem?
  intro i
  by_cases h : i < n
  · simp [madeCells, Value.cells, byteVs, List.getElem?_replicate, h, Nat.mod_one]
  · simp [madeCells, Value.cells, byteVs, List.getElem?_replicate, h]

end Go.Proofs.Ytbaelhaajplbnaa
