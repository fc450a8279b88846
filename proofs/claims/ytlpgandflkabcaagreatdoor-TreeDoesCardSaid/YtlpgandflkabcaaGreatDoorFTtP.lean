/-
  A tree that lies boxed while a law runs: it stays.
-/
import Derived.Test.YtlpgandflkabcaaGreatDoorFTrX
namespace Go.Proofs.YtlpgandflkabcaaGreatDoor
open Go Go.RowKit Go.Shelf
set_option linter.unusedVariables false
set_option linter.unusedSimpArgs false

def Keep (W : World) (tv : Array Value) (w : World) : Prop := Below W.heap.size W w ∧ w.heap[W.heap.size]? = some (.cells tv 24)
theorem keep_of {W w : World} {tv : Array Value} (h : Below (W.alloc (.cells tv 24)).heap.size (W.alloc (.cells tv 24)) w) : Keep W tv w :=
  ⟨((Below.refl _ _).alloc (Nat.le_refl _) _).trans (h.mono (by simp only [heap_len]; omega)), (h.block _ (by simp only [heap_len]; omega)).trans (heap_new _ _ _ rfl)⟩
theorem below_step {a b w : World} {o : Obj} (h : Below a.heap.size a b) (h2 : Below (b.alloc o).heap.size (b.alloc o) w) : Below a.heap.size a w ∧ w.heap[b.heap.size]? = some o :=
  ⟨(h.alloc h.size o).trans (h2.mono (by have := h.size; simp only [heap_len]; omega)), (h2.block _ (by simp only [heap_len]; omega)).trans (heap_new _ _ _ rfl)⟩
theorem nodesV_step {b : World} {v : Value} {l : List NodeD} (o : Obj) (h : NodesV b v l) : NodesV (b.alloc o) v l := h.below ((Below.refl _ _).alloc (Nat.le_refl _) _)
end Go.Proofs.YtlpgandflkabcaaGreatDoor
