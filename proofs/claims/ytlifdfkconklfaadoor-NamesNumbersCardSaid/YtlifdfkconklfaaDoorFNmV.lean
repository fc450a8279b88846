/-
  Names: the numbers of a written table, filled from the beginning (plain: the program's way).
-/
import Derived.Test.YtlifdfkconklfaaDoorFNmU
namespace Go.Proofs.YtlifdfkconklfaaDoor
open Go Go.RowKit
set_option linter.unusedVariables false
set_option linter.unusedSimpArgs false

theorem nextF_snoc (a : List Nat) (c k p : Nat) (hp : p ≤ a.length) : nextF (a ++ [c]) k p = if nextF a k p ≠ 0 then nextF a k p else if c = k then a.length + 1 else 0 := by
  unfold nextF
  rw [List.drop_append_of_le_length hp, List.findIdx?_append]
  cases h : (a.drop p).findIdx? (· == k) with
  | some i => simp
  | none =>
    by_cases hc : c = k
    · simp [hc, List.findIdx?_cons]; omega
    · simp [hc, List.findIdx?_cons]
/-- The place, and one, of the last that has this way; 0: none has. -/
def lastF (a : List Nat) (k : Nat) : Nat :=
  match a.reverse.findIdx? (· == k) with
  | some i => a.length - i
  | none => 0
theorem lastF_nil (k : Nat) : lastF [] k = 0 := rfl
theorem lastF_snoc (a : List Nat) (c k : Nat) : lastF (a ++ [c]) k = if c = k then a.length + 1 else lastF a k := by
  unfold lastF
  rw [List.reverse_append, List.reverse_singleton, List.singleton_append, List.findIdx?_cons]
  by_cases hc : c = k
  · simp [hc]
  · rw [if_neg (by simpa using hc), if_neg hc]
    cases h : a.reverse.findIdx? (· == k) with
    | some i => simp
    | none => rfl
theorem nextF_none {a : List Nat} {k p : Nat} : nextF a k p = 0 ↔ ∀ x ∈ a.drop p, x ≠ k := by
  unfold nextF
  cases h : (a.drop p).findIdx? (· == k) with
  | some i =>
    obtain ⟨h1, h2, _⟩ := List.findIdx?_eq_some_iff_getElem.1 h
    constructor
    · intro e; simp at e
    · intro e
      exact absurd (by simpa using h2) (e _ (List.getElem_mem h1))
  | none =>
    rw [List.findIdx?_eq_none_iff] at h
    simp only [true_iff]
    intro x hx e
    have := h x hx
    rw [e] at this
    simp at this
/-- Of a way that is there the last one's place is the only one from which none has a next. -/
theorem next_last (k : Nat) (a : List Nat) : (lastF a k = 0 ↔ nextF a k 0 = 0) ∧ lastF a k ≤ a.length ∧ ∀ q, (h0 : 1 ≤ q) → (h : q ≤ a.length) → a[q - 1]'(by omega) = k → (nextF a k q = 0 ↔ q = lastF a k) := by
  obtain ⟨r, hr⟩ : ∃ r, r = a.reverse := ⟨_, rfl⟩
  have ha : a = r.reverse := by rw [hr, List.reverse_reverse]
  clear hr
  subst ha
  induction r with
  | nil => exact ⟨⟨fun _ => rfl, fun _ => rfl⟩, Nat.le_refl _, fun q h1 h2 => by rw [List.reverse_nil, List.length_nil] at h2; omega⟩
  | cons c r ih =>
    obtain ⟨i1, i2, i3⟩ := ih
    rw [List.reverse_cons]
    generalize r.reverse = a at *
    have hlen : (a ++ [c]).length = a.length + 1 := by simp
    refine ⟨?_, ?_, ?_⟩
    · rw [lastF_snoc, nextF_snoc _ _ _ _ (Nat.zero_le _)]
      by_cases hc : c = k
      · rw [if_pos hc, if_pos hc]
        split
        · rename_i h; simp [h]
        · simp
      · rw [if_neg hc, if_neg hc, i1]
        split
        · rfl
        · rename_i h; simp at h; simp [h]
    · rw [lastF_snoc, hlen]
      split <;> omega
    · intro q h1 h2 h3
      rw [hlen] at h2
      by_cases hq : q = a.length + 1
      · subst hq
        have hck : c = k := by simpa using h3
        rw [nextF_end (by rw [hlen]; exact Nat.le_refl _), lastF_snoc, if_pos hck]
        simp
      · have h3' : a[q - 1]'(by omega) = k := by rw [List.getElem_append_left (by omega)] at h3; exact h3
        have := i3 q h1 (by omega) h3'
        rw [lastF_snoc, nextF_snoc _ _ _ _ (by omega)]
        by_cases hc : c = k
        · rw [if_pos hc, if_pos hc]
          constructor
          · intro e; split at e
            · rename_i h; exact absurd e h
            · simp at e
          · intro e; omega
        · rw [if_neg hc, if_neg hc, ← this]
          split
          · rfl
          · rename_i h; simp at h; simp [h]
end Go.Proofs.YtlifdfkconklfaaDoor
