/-
  Cells that the call owns.
-/
import Derived.Test.YtbaelhaajplbnaaFHoL
namespace Go.Proofs.Ytbaelhaajplbnaa
open Go Go.RowKit
set_option linter.unusedVariables false
set_option linter.unusedSimpArgs false

theorem cellsV_of_own {w : World} {B : Nat} {v : Value} {l : List CellD} (h : w.ownsRow B 85 2 v l.length (cellVs l)) : CellsV w v l := by
  obtain ⟨h1, h2⟩ := h
  rcases h2 with ⟨rfl, h3⟩ | ⟨g, cap, cur, rfl, hg, hc, hn, hcap, hsz, ht⟩
  · exact ⟨none, 0, by rw [h3], fun hn => absurd (List.length_eq_zero_iff.1 h3) hn⟩
  · have key : ∀ j u, (cellVs l)[j]? = some u → w.cell? ⟨g, j, none⟩ = some u := fun j u hj => by
      refine cell_at hc ?_
      rw [← ht, List.getElem?_take] at hj
      split at hj
      · simpa using hj
      · cases hj
    refine ⟨some ⟨g, 0, none⟩, cap, rfl, fun _ => ⟨g, 0, rfl, heap_lt hc, fun i hi => ?_, fun i hi => ?_⟩⟩
    · rw [Nat.zero_add]; exact key _ _ (cellVs_at l i hi).1
    · rw [Nat.zero_add]; exact key _ _ (cellVs_at l i hi).2
end Go.Proofs.Ytbaelhaajplbnaa
