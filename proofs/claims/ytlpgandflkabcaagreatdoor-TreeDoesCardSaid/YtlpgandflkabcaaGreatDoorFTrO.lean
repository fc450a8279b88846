/-
  Nodes that rise by their paths: where one stands, or should stand.
-/
import Derived.Test.YtlpgandflkabcaaGreatDoorFTrQ
namespace Go.Proofs.YtlpgandflkabcaaGreatDoor
set_option linter.unusedVariables false
set_option linter.unusedSimpArgs false

theorem ltS_irrefl (a : List UInt8) : ¬ a < a := List.lt_irrefl a
theorem ltS_trans {a b c : List UInt8} (h1 : a < b) (h2 : b < c) : a < c := List.lt_trans h1 h2
theorem ltS_asymm {a b : List UInt8} (h : a < b) : ¬ b < a := fun h2 => ltS_irrefl a (ltS_trans h h2)
theorem ltS_tri (a b : List UInt8) : a < b ∨ a = b ∨ b < a := by
  by_cases h1 : a < b
  · exact .inl h1
  · by_cases h2 : b < a
    · exact .inr (.inr h2)
    · exact .inr (.inl (List.le_antisymm (List.not_lt.1 h2) (List.not_lt.1 h1)))
theorem leS_lt {a b c : List UInt8} (h1 : ¬ b < a) (h2 : b < c) : a < c := by
  rcases ltS_tri a b with h | rfl | h
  · exact ltS_trans h h2
  · exact h2
  · exact absurd h h1
def RiseS (l : List NodeD) : Prop := l.Pairwise fun a b => a.path < b.path
def lowS (l : List NodeD) (x : List UInt8) : Nat := l.findIdx fun a => !decide (a.path < x)
def hasS (l : List NodeD) (x : List UInt8) : Bool := l.any fun a => a.path == x
theorem lowS_of {l : List NodeD} {x : List UInt8} {i : Nat} (hi : i ≤ l.length) (h1 : ∀ k (h : k < l.length), k < i → l[k].path < x) (h2 : ∀ k (h : k < l.length), i ≤ k → ¬ l[k].path < x) : lowS l x = i := by
  rcases Nat.lt_or_eq_of_le hi with h | rfl
  · exact (List.findIdx_eq h).2 ⟨by simpa using h2 i h (Nat.le_refl _), fun j hj => by simpa using h1 j (by omega) hj⟩
  · exact List.findIdx_eq_length.2 fun a ha => by
      obtain ⟨k, hk, rfl⟩ := List.getElem_of_mem ha
      simpa using h1 k hk hk
theorem lowS_le {l : List NodeD} {x : List UInt8} : lowS l x ≤ l.length := List.findIdx_le_length
theorem lowS_lt {l : List NodeD} {x : List UInt8} {k : Nat} (hk : k < lowS l x) (h : k < l.length) : l[k].path < x := by
  have := List.not_of_lt_findIdx hk
  simpa using this
theorem lowS_ge {l : List NodeD} {x : List UInt8} (h : lowS l x < l.length) : ¬ l[lowS l x].path < x := by
  have h1 := List.findIdx_getElem (w := h)
  rw [Bool.not_eq_true', decide_eq_false_iff_not] at h1
  exact h1
theorem RiseS.at {l : List NodeD} (hr : RiseS l) {i j : Nat} (hj : j < l.length) (hij : i < j) : (l[i]'(by omega)).path < l[j].path := List.pairwise_iff_getElem.1 hr i j (by omega) hj hij
theorem RiseS.inj {l : List NodeD} (hr : RiseS l) {i j : Nat} (hi : i < l.length) (hj : j < l.length) (h : l[i].path = l[j].path) : i = j := by
  rcases Nat.lt_trichotomy i j with h1 | h1 | h1
  · have := hr.at hj h1; rw [h] at this; exact absurd this (ltS_irrefl _)
  · exact h1
  · have := hr.at hi h1; rw [h] at this; exact absurd this (ltS_irrefl _)
theorem hasS_at {l : List NodeD} (hr : RiseS l) {x : List UInt8} : hasS l x = true ↔ ∃ h : lowS l x < l.length, l[lowS l x].path = x := by
  constructor
  · intro h
    simp only [hasS, List.any_eq_true, beq_iff_eq] at h
    obtain ⟨a, ha, rfl⟩ := h
    obtain ⟨k, hk, rfl⟩ := List.getElem_of_mem ha
    have h1 : lowS l l[k].path = k := lowS_of (Nat.le_of_lt hk) (fun j hj hjk => hr.at hk hjk) (fun j hj hkj => by
      rcases Nat.lt_or_eq_of_le hkj with h | rfl
      · exact ltS_asymm (hr.at hj h)
      · exact ltS_irrefl _)
    rw [h1]
    exact ⟨hk, rfl⟩
  · rintro ⟨h1, h2⟩
    simp only [hasS, List.any_eq_true, beq_iff_eq]
    exact ⟨_, List.getElem_mem h1, h2⟩
theorem hasS_iff {l : List NodeD} {x : List UInt8} : hasS l x = true ↔ ∃ a ∈ l, a.path = x := by simp [hasS]
theorem hasS_not {l : List NodeD} {x : List UInt8} : hasS l x = false ↔ ∀ a ∈ l, a.path ≠ x := by
  rw [Bool.eq_false_iff, ne_eq, hasS_iff]
  simp

/-! ### Comparing -/
def cmpS (a b : List UInt8) : Int := if a < b then -1 else if b < a then 1 else 0
theorem cmpS_lt (a b : List UInt8) : decide (cmpS a b < 0) = decide (a < b) := by
  unfold cmpS
  split
  · rename_i h; simp [h]
  · rename_i h; split <;> simp [h]
theorem cmpS_eq (a b : List UInt8) : ((cmpS a b == 0) : Bool) = (a == b) := by
  unfold cmpS
  split
  · rename_i h
    have : a ≠ b := fun e => by subst e; exact ltS_irrefl _ h
    rw [beq_eq_false_iff_ne.2 this]; rfl
  · rename_i h
    split
    · rename_i h2
      have : a ≠ b := fun e => by subst e; exact ltS_irrefl _ h2
      rw [beq_eq_false_iff_ne.2 this]; rfl
    · rename_i h2
      rcases ltS_tri a b with h3 | h3 | h3
      · exact absurd h3 h
      · subst h3; simp
      · exact absurd h3 h2

/-! ### Where a node is, by the document -/
def placeS (l : List NodeD) (x : List UInt8) : Int := if hasS l x = true then ((l.findIdx fun a => a.path == x : Nat) : Int) else -1
theorem placeS_at {l : List NodeD} {x : List UInt8} {k : Nat} (hk : k < l.length) (h : ∀ j (h : j < l.length), j < k → l[j].path ≠ x) (he : l[k].path = x) : placeS l x = k := by
  have h1 : hasS l x = true := hasS_iff.2 ⟨_, List.getElem_mem hk, he⟩
  rw [placeS, if_pos h1, (List.findIdx_eq hk).2 ⟨by simpa using he, fun j hj => by simpa using h j (by omega) hj⟩]
theorem placeS_none {l : List NodeD} {x : List UInt8} (h : hasS l x = false) : placeS l x = -1 := by rw [placeS, h, if_neg (by simp)]
theorem placeS_low {l : List NodeD} (hr : RiseS l) {x : List UInt8} (h : hasS l x = true) : placeS l x = lowS l x := by
  obtain ⟨h1, h2⟩ := (hasS_at hr).1 h
  exact placeS_at h1 (fun j hj hjk e => by have := lowS_lt hjk hj; rw [e] at this; exact ltS_irrefl _ this) h2
theorem placeS_some {l : List NodeD} {x : List UInt8} (h : hasS l x = true) : ∃ k : Nat, ∃ hk : k < l.length, placeS l x = k ∧ l[k].path = x := by
  obtain ⟨a, ha, he⟩ := hasS_iff.1 h
  have hlt : l.findIdx (fun a => a.path == x) < l.length := List.findIdx_lt_length_of_exists ⟨a, ha, by simpa using he⟩
  refine ⟨_, hlt, by rw [placeS, if_pos h], ?_⟩
  have := List.findIdx_getElem (w := hlt)
  simpa using this
end Go.Proofs.YtlpgandflkabcaaGreatDoor
