/-
  Names: the numbers of a written table, filled from the end (plain: the document's way).
-/
import Derived.Test.YtlifdfkconklfaaDoorFNmT
namespace Go.Proofs.YtlifdfkconklfaaDoor
open Go Go.RowKit
set_option linter.unusedVariables false
set_option linter.unusedSimpArgs false

/-- The first of each way from a place on. -/
def firstL (ws : List Nat) (ways i : Nat) : List Nat := (List.range ways).map fun k => nextF ws k i
/-- The next of each place, of those from a place on. -/
def nextL (ws : List Nat) (i : Nat) : List Nat := (List.range (ws.length + 1)).map fun q => if i < q then nextF ws (ws.getD (q - 1) 0) q else 0
theorem firstL_len (ws : List Nat) (ways i : Nat) : (firstL ws ways i).length = ways := by simp [firstL]
theorem nextL_len (ws : List Nat) (i : Nat) : (nextL ws i).length = ws.length + 1 := by simp [nextL]
theorem firstL_at {ws : List Nat} {ways i k : Nat} (h : k < (firstL ws ways i).length) : (firstL ws ways i)[k] = nextF ws k i := by simp [firstL]
theorem nextL_at {ws : List Nat} {i q : Nat} (h : q < (nextL ws i).length) : (nextL ws i)[q] = if i < q then nextF ws (ws.getD (q - 1) 0) q else 0 := by simp [nextL]
theorem firstL_end (ws : List Nat) (ways : Nat) : firstL ws ways ws.length = List.replicate ways 0 := by
  refine List.eq_replicate_iff.2 ⟨firstL_len _ _ _, fun b hb => ?_⟩
  obtain ⟨k, hk, rfl⟩ := List.mem_map.1 hb
  exact nextF_end (Nat.le_refl _)
theorem nextL_end (ws : List Nat) : nextL ws ws.length = List.replicate (ws.length + 1) 0 := by
  refine List.eq_replicate_iff.2 ⟨nextL_len _ _, fun b hb => ?_⟩
  obtain ⟨q, hq, rfl⟩ := List.mem_map.1 hb
  rw [List.mem_range] at hq
  exact if_neg (by omega)
theorem firstL_step {ws : List Nat} {ways i : Nat} (hi : i < ws.length) : (firstL ws ways (i + 1)).set ws[i] (i + 1) = firstL ws ways i := by
  refine List.ext_getElem (by simp [firstL_len]) fun k h1 h2 => ?_
  rw [List.getElem_set, firstL_at h2, nextF_step hi]
  by_cases h : ws[i] = k
  · rw [if_pos h, if_pos h]
  · rw [if_neg h, if_neg h, firstL_at]
theorem nextL_step {ws : List Nat} {i : Nat} (hi : i < ws.length) : (nextL ws (i + 1)).set (i + 1) (nextF ws ws[i] (i + 1)) = nextL ws i := by
  refine List.ext_getElem (by simp [nextL_len]) fun q h1 h2 => ?_
  rw [List.getElem_set, nextL_at h2]
  by_cases h : i + 1 = q
  · subst h
    rw [if_pos rfl, if_pos (by omega), Nat.add_sub_cancel]
    congr 1
    rw [List.getD_eq_getElem?_getD, List.getElem?_eq_getElem hi]; rfl
  · rw [if_neg h, nextL_at]
    by_cases h3 : i < q
    · rw [if_pos h3, if_pos (by omega)]
    · rw [if_neg h3, if_neg (by omega)]
theorem hashN_is (ways : Nat) (ws : List Nat) : hashN ways ws = [ways, ws.length + 1] ++ firstL ws ways 0 ++ nextL ws 0 := by
  unfold hashN firstL nextL
  rw [List.range_succ_eq_map, List.map_cons, List.map_map]
  congr 2
theorem nextF_lt (ws : List Nat) (k p : Nat) (h : ws.length < 4294967295) : nextF ws k p < 4294967296 := by have := nextF_le ws k p; omega
end Go.Proofs.YtlifdfkconklfaaDoor
