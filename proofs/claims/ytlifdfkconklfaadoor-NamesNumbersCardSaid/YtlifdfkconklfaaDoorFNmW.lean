/-
  Names: the program's numbers, step by step (plain).
-/
import Derived.Test.YtlifdfkconklfaaDoorFNmV
namespace Go.Proofs.YtlifdfkconklfaaDoor
open Go Go.RowKit
set_option linter.unusedVariables false
set_option linter.unusedSimpArgs false

def firstP (ws : List Nat) (ways i : Nat) : List Nat := (List.range ways).map fun k => nextF (ws.take i) k 0
def lastP (ws : List Nat) (ways i : Nat) : List Nat := (List.range ways).map fun k => lastF (ws.take i) k
def nextP (ws : List Nat) (i : Nat) : List Nat := (List.range (ws.length + 1)).map fun q => if 1 ≤ q ∧ q ≤ i then nextF (ws.take i) (ws.getD (q - 1) 0) q else 0
theorem firstP_len (ws : List Nat) (ways i : Nat) : (firstP ws ways i).length = ways := by simp [firstP]
theorem lastP_len (ws : List Nat) (ways i : Nat) : (lastP ws ways i).length = ways := by simp [lastP]
theorem nextP_len (ws : List Nat) (i : Nat) : (nextP ws i).length = ws.length + 1 := by simp [nextP]
theorem firstP_at {ws : List Nat} {ways i k : Nat} (h : k < (firstP ws ways i).length) : (firstP ws ways i)[k] = nextF (ws.take i) k 0 := by simp [firstP]
theorem lastP_at {ws : List Nat} {ways i k : Nat} (h : k < (lastP ws ways i).length) : (lastP ws ways i)[k] = lastF (ws.take i) k := by simp [lastP]
theorem nextP_at {ws : List Nat} {i q : Nat} (h : q < (nextP ws i).length) : (nextP ws i)[q] = if 1 ≤ q ∧ q ≤ i then nextF (ws.take i) (ws.getD (q - 1) 0) q else 0 := by simp [nextP]
theorem firstP_0 (ws : List Nat) (ways : Nat) : firstP ws ways 0 = List.replicate ways 0 := by
  refine List.eq_replicate_iff.2 ⟨firstP_len _ _ _, fun b hb => ?_⟩
  obtain ⟨k, hk, rfl⟩ := List.mem_map.1 hb
  exact nextF_end (Nat.le_refl _)
theorem lastP_0 (ws : List Nat) (ways : Nat) : lastP ws ways 0 = List.replicate ways 0 := by
  refine List.eq_replicate_iff.2 ⟨lastP_len _ _ _, fun b hb => ?_⟩
  obtain ⟨k, hk, rfl⟩ := List.mem_map.1 hb
  rfl
theorem nextP_0 (ws : List Nat) : nextP ws 0 = List.replicate (ws.length + 1) 0 := by
  refine List.eq_replicate_iff.2 ⟨nextP_len _ _, fun b hb => ?_⟩
  obtain ⟨q, hq, rfl⟩ := List.mem_map.1 hb
  exact if_neg (by omega)
theorem firstP_end (ws : List Nat) (ways : Nat) : firstP ws ways ws.length = firstL ws ways 0 := by
  unfold firstP firstL; rw [List.take_length]
theorem nextP_end (ws : List Nat) : nextP ws ws.length = nextL ws 0 := by
  refine List.ext_getElem (by simp [nextP_len, nextL_len]) fun q h1 h2 => ?_
  rw [nextP_at h1, nextL_at h2, List.take_length]
  rw [nextP_len] at h1
  by_cases h : 0 < q
  · rw [if_pos ⟨h, by omega⟩, if_pos h]
  · rw [if_neg (by omega), if_neg h]
theorem take_snoc {ws : List Nat} {i : Nat} (hi : i < ws.length) : ws.take (i + 1) = ws.take i ++ [ws[i]] := List.take_succ_eq_append_getElem hi
theorem take_len {ws : List Nat} {i : Nat} (hi : i < ws.length) : (ws.take i).length = i := by rw [List.length_take]; omega
theorem firstP_step {ws : List Nat} {ways i : Nat} (hi : i < ws.length) (h0 : nextF (ws.take i) ws[i] 0 = 0) : (firstP ws ways i).set ws[i] (i + 1) = firstP ws ways (i + 1) := by
  refine List.ext_getElem (by simp [firstP_len]) fun k h1 h2 => ?_
  rw [List.getElem_set, firstP_at h2, take_snoc hi, nextF_snoc _ _ _ _ (Nat.zero_le _), take_len hi]
  by_cases h : ws[i] = k
  · rw [if_pos h, if_pos h, if_neg (by rw [← h]; simpa using h0)]
  · rw [if_neg h, if_neg h, firstP_at]
    split
    · rfl
    · rename_i e; simpa using e
theorem firstP_keep {ws : List Nat} {ways i : Nat} (hi : i < ws.length) (h0 : nextF (ws.take i) ws[i] 0 ≠ 0) : firstP ws ways (i + 1) = firstP ws ways i := by
  refine List.ext_getElem (by simp [firstP_len]) fun k h1 h2 => ?_
  rw [firstP_at h1, firstP_at h2, take_snoc hi, nextF_snoc _ _ _ _ (Nat.zero_le _)]
  by_cases h : ws[i] = k
  · rw [← h, if_pos h0]
  · rw [if_neg h]
    split
    · rfl
    · rename_i e; simp at e; exact e.symm
theorem lastP_step {ws : List Nat} {ways i : Nat} (hi : i < ws.length) : (lastP ws ways i).set ws[i] (i + 1) = lastP ws ways (i + 1) := by
  refine List.ext_getElem (by simp [lastP_len]) fun k h1 h2 => ?_
  rw [List.getElem_set, lastP_at h2, take_snoc hi, lastF_snoc, take_len hi]
  by_cases h : ws[i] = k
  · rw [if_pos h, if_pos h]
  · rw [if_neg h, if_neg h, lastP_at]
theorem nextP_next {ws : List Nat} {i q : Nat} (hi : i < ws.length) (hq : 1 ≤ q) (hqi : q ≤ i + 1) : nextF (ws.take (i + 1)) (ws.getD (q - 1) 0) q = if 1 ≤ q ∧ q ≤ i then (if ws[i] = ws.getD (q - 1) 0 ∧ q = lastF (ws.take i) ws[i] then i + 1 else nextF (ws.take i) (ws.getD (q - 1) 0) q) else 0 := by
  by_cases h : q ≤ i
  · rw [if_pos ⟨hq, h⟩, take_snoc hi, nextF_snoc _ _ _ _ (by rw [take_len hi]; exact h), take_len hi]
    have hg : ws.getD (q - 1) 0 = ws[q - 1]'(by omega) := by rw [List.getD_eq_getElem?_getD, List.getElem?_eq_getElem (by omega)]; rfl
    by_cases hc : ws[i] = ws.getD (q - 1) 0
    · have h3 := (next_last ws[i] (ws.take i)).2.2 q hq (by rw [take_len hi]; exact h) (by rw [List.getElem_take, ← hg, hc])
      rw [← hc]
      by_cases hl : q = lastF (ws.take i) ws[i]
      · rw [if_neg (by simp; exact h3.2 hl), if_pos rfl, if_pos ⟨rfl, hl⟩]
      · rw [if_pos (fun e => hl (h3.1 e)), if_neg (fun e => hl e.2)]
    · rw [if_neg hc, if_neg (show ¬(ws[i] = ws.getD (q - 1) 0 ∧ q = lastF (ws.take i) ws[i]) from fun e => hc e.1)]
      split
      · rfl
      · rename_i e; simp at e; exact e.symm
  · rw [if_neg (by omega)]
    exact nextF_end (by rw [List.length_take]; omega)
theorem nextP_keep {ws : List Nat} {i : Nat} (hi : i < ws.length) (h0 : nextF (ws.take i) ws[i] 0 = 0) : nextP ws (i + 1) = nextP ws i := by
  refine List.ext_getElem (by simp [nextP_len]) fun q h1 h2 => ?_
  rw [nextP_at h1, nextP_at h2]
  have hl : lastF (ws.take i) ws[i] = 0 := (next_last ws[i] (ws.take i)).1.2 h0
  by_cases hq : 1 ≤ q ∧ q ≤ i + 1
  · rw [if_pos hq, nextP_next hi hq.1 hq.2, hl]
    by_cases h3 : 1 ≤ q ∧ q ≤ i
    · rw [if_pos h3, if_pos h3, if_neg (show ¬(ws[i] = ws.getD (q - 1) 0 ∧ q = 0) from fun e => by omega)]
    · rw [if_neg h3, if_neg h3]
  · rw [if_neg hq, if_neg (show ¬(1 ≤ q ∧ q ≤ i) from fun e => hq ⟨e.1, by omega⟩)]
theorem lastF_is {a : List Nat} {k : Nat} (h : lastF a k ≠ 0) : a[lastF a k - 1]? = some k := by
  cases hf : a.reverse.findIdx? (· == k) with
  | none => exact absurd (by unfold lastF; rw [hf]) h
  | some j =>
    have e : lastF a k = a.length - j := by unfold lastF; rw [hf]
    obtain ⟨h1, h2, _⟩ := List.findIdx?_eq_some_iff_getElem.1 hf
    rw [List.getElem_reverse] at h2
    simp only [List.length_reverse] at h1
    rw [e, show a.length - j - 1 = a.length - 1 - j by omega, List.getElem?_eq_getElem (by omega)]
    congr 1
    simpa using h2
theorem nextP_step {ws : List Nat} {i : Nat} (hi : i < ws.length) (h0 : nextF (ws.take i) ws[i] 0 ≠ 0) : (nextP ws i).set (lastF (ws.take i) ws[i]) (i + 1) = nextP ws (i + 1) := by
  have hl := next_last ws[i] (ws.take i)
  have hl0 : lastF (ws.take i) ws[i] ≠ 0 := fun e => h0 (hl.1.1 e)
  have hle := hl.2.1
  have hlen := take_len hi
  refine List.ext_getElem (by simp [nextP_len]) fun q h1 h2 => ?_
  rw [List.getElem_set, nextP_at h2]
  by_cases he : lastF (ws.take i) ws[i] = q
  · have hv := lastF_is hl0
    have hg : ws.getD (q - 1) 0 = ws[i] := by
      rw [List.getElem?_take, if_pos (by omega), he] at hv
      rw [List.getD_eq_getElem?_getD, hv]; rfl
    rw [if_pos he, if_pos ⟨by omega, by omega⟩, nextP_next hi (by omega) (by omega), if_pos ⟨by omega, by omega⟩, if_pos ⟨hg.symm, he.symm⟩]
  · rw [if_neg he, nextP_at]
    by_cases hq : 1 ≤ q ∧ q ≤ i + 1
    · rw [if_pos hq, nextP_next hi hq.1 hq.2]
      by_cases h3 : 1 ≤ q ∧ q ≤ i
      · rw [if_pos h3, if_pos h3, if_neg (show ¬(ws[i] = ws.getD (q - 1) 0 ∧ q = lastF (ws.take i) ws[i]) from fun e => he e.2.symm)]
      · rw [if_neg h3, if_neg h3]
    · rw [if_neg hq, if_neg (show ¬(1 ≤ q ∧ q ≤ i) from fun e => hq ⟨e.1, by omega⟩)]
end Go.Proofs.YtlifdfkconklfaaDoor
