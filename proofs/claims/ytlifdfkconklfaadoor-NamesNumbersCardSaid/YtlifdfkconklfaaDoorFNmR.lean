/-
  Names: the ways of a table, plainly: the places that a way hands out, and the first of them that is a name's.
-/
import Derived.Test.YtlifdfkconklfaaDoorFNmQ
namespace Go.Proofs.YtlifdfkconklfaaDoor
open Go Go.RowKit
set_option linter.unusedVariables false
set_option linter.unusedSimpArgs false

/-- The places that a way hands out, from one on. -/
def wayL (hb : List UInt8) (ways n : Nat) : Nat → Option Nat → List Nat
  | 0, _ => []
  | _ + 1, none => []
  | f + 1, some k => if 1 ≤ k ∧ k ≤ n then (k - 1) :: wayL hb ways n f (numAt hb (2 + ways + k)) else []
def chainL (hb name : List UInt8) (n : Nat) : List Nat :=
  match numAt hb 0 with
  | none => []
  | some ways => if ways = 0 then [] else wayL hb ways n (n + 1) (numAt hb (2 + hashL name % ways))
def goodAt (l : List SymD) (name : List UInt8) (k : Nat) : Bool := match l[k]? with
  | some s => good name s
  | none => false
theorem goodAt_is {l : List SymD} {name : List UInt8} {k : Nat} (h : k < l.length) : goodAt l name k = good name l[k] := by
  unfold goodAt; rw [List.getElem?_eq_getElem h]
theorem seek_way (hb : List UInt8) (ways : Nat) (l : List SymD) (name : List UInt8) : ∀ (f : Nat) (c : Option Nat), seekG hb ways l name f c = (wayL hb ways l.length f c).find? (goodAt l name)
  | 0, _ => rfl
  | _ + 1, none => rfl
  | f + 1, some k => by
    have ih := seek_way hb ways l name f (numAt hb (2 + ways + k))
    rw [seekG, wayL]
    by_cases h : 1 ≤ k ∧ k ≤ l.length
    · rw [dif_pos h, if_pos h, List.find?_cons, goodAt_is (by omega), ih]
      cases good name (l[k - 1]'(by omega)) <;> rfl
    · rw [dif_neg h, if_neg h]; rfl
theorem findL_chain (hb : List UInt8) (l : List SymD) (name : List UInt8) : findL hb l name = (chainL hb name l.length).find? (goodAt l name) := by
  unfold findL chainL
  cases numAt hb 0 with
  | none => rfl
  | some ways =>
    dsimp only
    by_cases h : ways = 0
    · rw [if_pos h, if_pos h]; rfl
    · rw [if_neg h, if_neg h, seek_way]
theorem wayL_lt (hb : List UInt8) (ways n : Nat) : ∀ (f : Nat) (c : Option Nat), ∀ x ∈ wayL hb ways n f c, x < n
  | 0, _, x, h => by cases h
  | _ + 1, none, x, h => by cases h
  | f + 1, some k, x, h => by
    rw [wayL] at h
    by_cases hk : 1 ≤ k ∧ k ≤ n
    · rw [if_pos hk] at h
      rcases List.mem_cons.1 h with rfl | h
      · omega
      · exact wayL_lt hb ways n f _ x h
    · rw [if_neg hk] at h; cases h
theorem wayL_len (hb : List UInt8) (ways n : Nat) : ∀ (f : Nat) (c : Option Nat), (wayL hb ways n f c).length ≤ f
  | 0, _ => Nat.le_refl _
  | _ + 1, none => Nat.zero_le _
  | f + 1, some k => by
    have := wayL_len hb ways n f (numAt hb (2 + ways + k))
    rw [wayL]
    split
    · simp; omega
    · simp
theorem chainL_lt (hb name : List UInt8) (n : Nat) : ∀ x ∈ chainL hb name n, x < n := by
  intro x h
  unfold chainL at h
  split at h
  · cases h
  · split at h
    · cases h
    · exact wayL_lt _ _ _ _ _ x h
/-! ### The numbers of a table's ways -/
/-- The place, and one, of the first from a place on that has this way; 0: none has. -/
def nextF (ws : List Nat) (k p : Nat) : Nat :=
  match (ws.drop p).findIdx? (· == k) with
  | some i => p + i + 1
  | none => 0
theorem nextF_step {ws : List Nat} {k p : Nat} (h : p < ws.length) : nextF ws k p = if ws[p] = k then p + 1 else nextF ws k (p + 1) := by
  unfold nextF
  rw [List.drop_eq_getElem_cons h, List.findIdx?_cons]
  by_cases hw : ws[p] = k
  · simp [hw]
  · rw [if_neg hw, if_neg (by simpa using hw)]
    cases (ws.drop (p + 1)).findIdx? (· == k) with
    | none => rfl
    | some i => simp; omega
theorem nextF_end {ws : List Nat} {k p : Nat} (h : ws.length ≤ p) : nextF ws k p = 0 := by
  unfold nextF
  rw [List.drop_of_length_le h]; rfl
/-- The numbers of a table with so many ways: for each way the first, for each place the next. -/
def hashN (ways : Nat) (ws : List Nat) : List Nat :=
  [ways, ws.length + 1] ++ (List.range ways).map (fun k => nextF ws k 0) ++ (0 :: (List.range ws.length).map (fun p => nextF ws (ws.getD p 0) (p + 1)))
theorem hashN_len (ways : Nat) (ws : List Nat) : (hashN ways ws).length = 2 + ways + ws.length + 1 := by
  simp [hashN]; omega
end Go.Proofs.YtlifdfkconklfaaDoor
