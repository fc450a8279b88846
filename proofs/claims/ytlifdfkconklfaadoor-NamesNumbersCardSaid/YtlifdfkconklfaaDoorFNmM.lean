/-
  Names: Read, by the program (at every table) and by the document.
-/
import Derived.Test.YtlifdfkconklfaaDoorFNmL
namespace Go.Proofs.YtlifdfkconklfaaDoor
open Go Go.RowKit
set_option linter.unusedVariables false
set_option linter.unusedSimpArgs false

theorem read_any (syms strs hash : List UInt8) (hl : syms.length ≤ 1000000) (hst : strs.length ≤ 1000000) (w : World) :
    Calls Tryd.prog 9 #[.agg (tabV syms strs hash)] w (ReadPost (readF syms strs) w) := by
  cases h : readOk syms
  · exact read_bad syms strs hash hl h w
  · exact read_good syms strs hash hl hst h w
/-- The symbols, and the bytes that they would have. -/
def rG (strs : List UInt8) : Nat → List UInt8 → Option (List SymD × List UInt8)
  | 0, _ => some ([], [])
  | k + 1, r => if chunkFit strs (r.take 16) then (rG strs k (r.drop 16)).map (fun p => (chunkSym strs (r.take 16) :: p.1, symB (chunkSym strs (r.take 16)) (wordAt r 0) ++ p.2)) else none
theorem app_split {a b r : List UInt8} (h : a.length = 16) : a ++ b = r ↔ (a = r.take 16 ∧ b = r.drop 16) := by
  constructor
  · rintro rfl
    exact ⟨by rw [List.take_append_of_le_length (by omega), List.take_of_length_le (by omega)], by rw [List.drop_append, List.drop_of_length_le (by omega), h]; simp⟩
  · rintro ⟨e1, e2⟩
    rw [e1, e2, List.take_append_drop]
theorem rG_readG (strs : List UInt8) : ∀ (k : Nat) (r : List UInt8), r.length = 16 * k → readG strs k r = (rG strs k r).bind (fun p => if p.2 = r then some p.1 else none)
  | 0, r, h => by
    have : r = [] := List.length_eq_zero_iff.1 (by omega)
    subst this
    rfl
  | k + 1, r, h => by
    have ih := rG_readG strs k (r.drop 16) (by rw [List.length_drop]; omega)
    rw [readG, rG, ih]
    have hw : wordAt (r.take 16) 0 = wordAt r 0 := wordAt_take _ _ (by omega)
    unfold chunkOk
    rw [hw]
    cases hf : chunkFit strs (r.take 16)
    · rfl
    · rw [Bool.true_and, if_pos rfl]
      cases hg : rG strs k (r.drop 16) with
      | none => simp
      | some p =>
        obtain ⟨l, b⟩ := p
        have hlen := symB_len (chunkSym strs (r.take 16)) (wordAt r 0)
        have hsplit : (symB (chunkSym strs (r.take 16)) (wordAt r 0) ++ b = r) ↔ (symB (chunkSym strs (r.take 16)) (wordAt r 0) = r.take 16 ∧ b = r.drop 16) := app_split hlen
        by_cases h1 : symB (chunkSym strs (r.take 16)) (wordAt r 0) = r.take 16
        · by_cases h2 : b = r.drop 16
          · have h3 := hsplit.2 ⟨h1, h2⟩
            simp [h1, h2, List.take_append_drop]
          · have h3 : ¬(symB (chunkSym strs (r.take 16)) (wordAt r 0) ++ b = r) := fun e => h2 (hsplit.1 e).2
            simp only [Option.map_some, Option.bind_some, if_neg h3, if_neg h2, Option.map_none]
            simp
        · have h3 : ¬(symB (chunkSym strs (r.take 16)) (wordAt r 0) ++ b = r) := fun e => h1 (hsplit.1 e).1
          simp only [Option.map_some, Option.bind_some, if_neg h3, decide_eq_false h1]
          simp
theorem rG_step {strs r : List UInt8} (n k : Nat) (h : k < n) : rG strs (n - k) r = if chunkFit strs (r.take 16) then (rG strs (n - (k + 1)) (r.drop 16)).map (fun p => (chunkSym strs (r.take 16) :: p.1, symB (chunkSym strs (r.take 16)) (wordAt r 0) ++ p.2)) else none := by
  have : n - k = (n - (k + 1)) + 1 := by omega
  rw [this, rG]
/-- What the document's Read asks of a table's length. -/
def rOk (syms : List UInt8) : Bool := decide (syms.length % 16 = 0) && (decide (1 ≤ syms.length / 16) && decide (syms.length / 16 ≤ 201))
def zer16 : List UInt8 := List.replicate 16 0
theorem zer16_iff (l : List UInt8) (h : l.length = 16) : l = zer16 ↔ l.all (· == 0) = true := by
  constructor
  · rintro rfl; rfl
  · intro ha
    refine List.eq_replicate_iff.2 ⟨h, fun b hb => ?_⟩
    simpa using List.all_eq_true.1 ha b hb
theorem readF_rG (syms strs : List UInt8) : readF syms strs = if rOk syms then (rG strs (syms.length / 16 - 1) (syms.drop 16)).bind (fun p => if zer16 ++ p.2 = syms then some p.1 else none) else none := by
  by_cases c : rOk syms = true
  · rw [if_pos c]
    obtain ⟨c1, c2, c3⟩ : syms.length % 16 = 0 ∧ 1 ≤ syms.length / 16 ∧ syms.length / 16 ≤ 201 := by simpa only [rOk, Bool.and_eq_true, decide_eq_true_eq] using c
    have hr : readOk syms = (syms.take 16).all (· == 0) := by rw [readOk, decide_eq_true c1, decide_eq_true c2, decide_eq_true c3]; rfl
    have hl : (syms.take 16).length = 16 := by rw [List.length_take]; omega
    have hk := rG_readG strs (syms.length / 16 - 1) (syms.drop 16) (by rw [List.length_drop]; omega)
    have hsplit : ∀ b, (zer16 ++ b = syms) ↔ ((syms.take 16).all (· == 0) = true ∧ b = syms.drop 16) := by
      intro b
      rw [← zer16_iff _ hl, eq_comm (a := syms.take 16)]
      exact app_split rfl
    unfold readF
    rw [hr, hk]
    cases hz : (syms.take 16).all (· == 0)
    · rw [if_neg (by simp)]
      cases rG strs (syms.length / 16 - 1) (syms.drop 16) with
      | none => rfl
      | some p =>
        have : ¬(zer16 ++ p.2 = syms) := fun e => by have := ((hsplit p.2).1 e).1; rw [hz] at this; cases this
        rw [Option.bind_some, if_neg this]
    · rw [if_pos rfl]
      congr 1
      funext p
      by_cases h2 : p.2 = syms.drop 16
      · rw [if_pos h2, if_pos ((hsplit p.2).2 ⟨hz, h2⟩)]
      · rw [if_neg h2, if_neg (fun e => h2 ((hsplit p.2).1 e).2)]
  · rw [if_neg c]
    have hr : readOk syms = false := by
      cases h : readOk syms
      · rfl
      · exfalso
        apply c
        simp only [readOk, Bool.and_eq_true, decide_eq_true_eq] at h
        simp only [rOk, Bool.and_eq_true, decide_eq_true_eq]
        exact ⟨h.1, h.2.1, h.2.2.1⟩
    rw [readF, hr]; rfl
end Go.Proofs.YtlifdfkconklfaaDoor
