/-
  Paths: the library's pieces, the last slash, a prefix and a suffix, plainly.
-/
import Derived.Test.YtlpgandflkabcaaGreatDoorFTrQ
import Derived.Lib.Split
import Derived.Lib.SplitLaws
import Derived.Lib.IndexBytes
import Derived.Lib.LastIndexByte
import Derived.Lib.Strings
namespace Go.Proofs.YtlpgandflkabcaaGreatDoor
open Go
set_option linter.unusedVariables false
set_option linter.unusedSimpArgs false

theorem index1_none {c : UInt8} {s : List UInt8} (h : c ∉ s) : Lib.index s [c] = -1 := by
  induction s with
  | nil => rfl
  | cons b s ih =>
    simp only [List.mem_cons, not_or] at h
    have hb : (c == b) = false := beq_eq_false_iff_ne.2 h.1
    rw [Lib.index, ih h.2]
    simp [List.isPrefixOf, hb]
theorem index1_at {c : UInt8} {t : List UInt8} : ∀ {s : List UInt8}, c ∉ s → Lib.index (s ++ c :: t) [c] = s.length
  | [], _ => by simp [Lib.index, List.isPrefixOf]
  | b :: s, h => by
    simp only [List.mem_cons, not_or] at h
    have hb : (c == b) = false := beq_eq_false_iff_ne.2 h.1
    rw [List.cons_append, Lib.index, index1_at h.2]
    have : ¬ ((s.length : Int) == -1) = true := by simp
    simp [List.isPrefixOf, hb]
theorem cut_first {c : UInt8} : ∀ {l : List UInt8}, c ∈ l → ∃ a t, c ∉ a ∧ l = a ++ c :: t
  | b :: l, h => by
    by_cases hb : c = b
    · subst hb; exact ⟨[], l, by simp, rfl⟩
    · obtain ⟨a, t, h1, rfl⟩ := cut_first ((List.mem_cons.1 h).resolve_left hb)
      exact ⟨b :: a, t, by simp only [List.mem_cons, not_or]; exact ⟨hb, h1⟩, rfl⟩
theorem lib_split1 (c : UInt8) : ∀ (n : Nat) (l : List UInt8), l.length ≤ n → Lib.splitK [c] 0 (Lib.count l [c]) l = splitB c l := by
  intro n
  induction n with
  | zero =>
    intro l h
    obtain rfl : l = [] := List.length_eq_zero_iff.1 (by omega)
    rfl
  | succ n ih =>
    intro l h
    by_cases hm : c ∈ l
    · obtain ⟨a, t, ha, rfl⟩ := cut_first hm
      have hi := index1_at (t := t) ha
      have hd : (a ++ c :: t).drop (a.length + 1) = t := by simp [List.drop_append]
      rw [Lib.count_hit (by simp) hi, Nat.add_comm 1, Lib.splitK, if_neg (by rw [hi]; simp), hi]
      simp only [Int.toNat_natCast, Nat.add_zero, List.length_cons, List.length_nil, Nat.zero_add, hd]
      rw [splitB_app ha, ih t (by simp at h; omega)]
      simp
    · rw [Lib.count_miss (index1_none hm), splitB_none hm]; rfl
theorem lib_split (c : UInt8) (l : List UInt8) : (Lib.splitB ⟨#[c]⟩ 0 (Lib.countB ⟨l.toArray⟩ ⟨#[c]⟩) ⟨l.toArray⟩).map (·.data.toList) = splitB c l := by
  rw [Lib.splitB_data]
  exact lib_split1 c l.length l (Nat.le_refl _)
theorem lib_split_length (c : UInt8) (l : List UInt8) : Lib.countB ⟨l.toArray⟩ ⟨#[c]⟩ + 1 = (splitB c l).length := by
  have h1 := congrArg List.length (lib_split c l)
  rw [List.length_map, Lib.splitB_all ⟨#[c]⟩ (Nat.le_refl 1) 0 _ _ rfl] at h1
  exact h1

/-! ### The last slash -/
theorem last_at {a n : List UInt8} {c : UInt8} (hn : c ∉ n) : Lib.lastIndexByte ⟨(a ++ c :: n).toArray⟩ (c.toNat : Int) = a.length := by
  have key : ∀ k, k ≤ n.length → Lib.lastIdx ⟨(a ++ c :: n).toArray⟩ (c.toNat : Int) (a.length + 1 + k) = a.length := by
    intro k
    induction k with
    | zero =>
      intro _
      rw [Nat.add_zero, Lib.lastIdx_hit]
      simp
    | succ k ih =>
      intro hk
      rw [show a.length + 1 + (k + 1) = a.length + 1 + k + 1 by omega, Lib.lastIdx_miss, ih (by omega)]
      have h1 : (a ++ c :: n)[a.length + 1 + k]? = n[k]? := by
        rw [List.getElem?_append_right (by omega), show a.length + 1 + k - a.length = k + 1 by omega]; rfl
      have h2 : n[k]? = some n[k] := List.getElem?_eq_getElem (by omega)
      have h3 : (a ++ c :: n).toArray[a.length + 1 + k]! = n[k] := by
        simp only [List.getElem!_toArray]
        rw [List.getElem!_eq_getElem?_getD, h1, h2]; rfl
      show (((a ++ c :: n).toArray[a.length + 1 + k]!).toNat : Int) ≠ _
      rw [h3]
      intro e
      have : n[k].toNat = c.toNat := by omega
      have : n[k] = c := UInt8.toNat_inj.1 this
      exact hn (this ▸ List.getElem_mem ..)
  unfold Lib.lastIndexByte
  have hs : (⟨(a ++ c :: n).toArray⟩ : ByteArray).size = a.length + 1 + n.length := by
    show (a ++ c :: n).toArray.size = _
    simp; omega
  rw [hs]
  exact key _ (Nat.le_refl _)
end Go.Proofs.YtlpgandflkabcaaGreatDoor
