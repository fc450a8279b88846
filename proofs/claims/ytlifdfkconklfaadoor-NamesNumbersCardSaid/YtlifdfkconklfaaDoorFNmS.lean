/-
  Names: along the ways of a table that was written the first symbol of a name is found (plain).
-/
import Derived.Test.YtlifdfkconklfaaDoorFNmR
namespace Go.Proofs.YtlifdfkconklfaaDoor
open Go Go.RowKit
set_option linter.unusedVariables false
set_option linter.unusedSimpArgs false

theorem beN_leL' : ∀ (n v : Nat), beN (leL n v).reverse = v % 256 ^ n
  | 0, v => by simp [leL, beN, Nat.mod_one]
  | n + 1, v => by
    have ih := beN_leL' n (v / 256)
    rw [leL, List.reverse_cons, beN_snoc, ih]
    have h1 : (UInt8.ofNat (v % 256)).toNat = v % 256 := by simp
    rw [h1, Nat.pow_succ, Nat.mul_comm (256 ^ n) 256, Nat.mod_mul]
    omega
theorem be4_rev (n : Nat) : be4 n = (leL 4 n).reverse := by
  rw [be4, beB, putBeF, if_pos (by omega)]; simp
theorem beN_be4 (n : Nat) (h : n < 4294967296) : beN (be4 n) = n := by
  rw [be4_rev, beN_leL']; simp; omega
theorem wordsL_append (a b : List Nat) : wordsL (a ++ b) = wordsL a ++ wordsL b := by simp [wordsL]
theorem numAt_words (L : List Nat) (hL : ∀ x ∈ L, x < 4294967296) (k : Nat) : numAt (wordsL L) k = L[k]? := by
  unfold numAt
  rw [wordsL_len]
  by_cases h : k < L.length
  · rw [if_pos (by omega), List.getElem?_eq_getElem h]
    have e : L = L.take k ++ (L[k] :: L.drop (k + 1)) := by rw [List.getElem_cons_drop, List.take_append_drop]
    have hk : (wordsL (L.take k)).length = 4 * k := by rw [wordsL_len, List.length_take]; omega
    have e2 : wordsL L = wordsL (L.take k) ++ (be4 L[k] ++ wordsL (L.drop (k + 1))) := by
      conv => lhs; rw [e]
      rw [wordsL_append]; rfl
    rw [wordAt, e2, List.drop_append, hk, Nat.sub_self, List.drop_of_length_le (by omega), List.nil_append, List.drop_zero, List.take_append_of_le_length (by rw [be4_len]; omega), List.take_of_length_le (by rw [be4_len]; omega), beN_be4 _ (hL _ (List.getElem_mem h))]
  · rw [if_neg (by omega), List.getElem?_eq_none (by omega)]
def waysOf (ways : Nat) (l : List SymD) : List Nat := l.map fun s => hashL s.name % ways
theorem waysOf_len (ways : Nat) (l : List SymD) : (waysOf ways l).length = l.length := by simp [waysOf]
theorem nextF_le (ws : List Nat) (k p : Nat) : nextF ws k p ≤ ws.length := by
  unfold nextF
  split
  · rename_i i h
    have := (List.findIdx?_eq_some_iff_getElem.1 h).1
    rw [List.length_drop] at this
    omega
  · omega
theorem hashN_lt (ways : Nat) (ws : List Nat) (h1 : ways < 4294967296) (h2 : ws.length < 1000000) : ∀ x ∈ hashN ways ws, x < 4294967296 := by
  intro x hx
  simp only [hashN, List.mem_append, List.mem_cons, List.mem_map, List.not_mem_nil, or_false] at hx
  rcases hx with ((rfl | rfl) | ⟨k, _, rfl⟩) | (rfl | ⟨p, _, rfl⟩)
  · exact h1
  · omega
  · have := nextF_le ws k 0; omega
  · omega
  · have := nextF_le ws (ws.getD p 0) (p + 1); omega
theorem hashN_0 (ways : Nat) (ws : List Nat) : (hashN ways ws)[0]? = some ways := rfl
theorem hashN_first (ways : Nat) (ws : List Nat) (k : Nat) (h : k < ways) : (hashN ways ws)[2 + k]? = some (nextF ws k 0) := by
  unfold hashN
  rw [List.append_assoc, List.getElem?_append_right (by simp), List.getElem?_append_left (by simp; omega)]
  simp [h]
theorem hashN_next (ways : Nat) (ws : List Nat) (p : Nat) (h : p < ws.length) : (hashN ways ws)[2 + ways + (p + 1)]? = some (nextF ws ws[p] (p + 1)) := by
  unfold hashN
  rw [List.getElem?_append_right (by simp; omega)]
  simp only [List.length_append, List.length_cons, List.length_nil, List.length_map, List.length_range]
  rw [show 2 + ways + (p + 1) - (0 + 1 + 1 + ways) = p + 1 by omega, List.getElem?_cons_succ]
  simp [h]
theorem way_first (l : List SymD) (name : List UInt8) (ways : Nat) (hw : 0 < ways) (hw2 : ways < 4294967296) (hl : l.length < 1000000) :
    ∀ (d p f : Nat), p + d = l.length → d + 1 ≤ f →
      (wayL (wordsL (hashN ways (waysOf ways l))) ways l.length f (some (nextF (waysOf ways l) (hashL name % ways) p))).find? (goodAt l name) = (List.range' p d).find? (goodAt l name)
  | 0, p, f, hp, hf => by
    obtain ⟨f, rfl⟩ : ∃ g, f = g + 1 := ⟨f - 1, by omega⟩
    rw [nextF_end (by rw [waysOf_len]; omega), wayL, if_neg (by omega)]; rfl
  | d + 1, p, f, hp, hf => by
    obtain ⟨f, rfl⟩ : ∃ g, f = g + 1 := ⟨f - 1, by omega⟩
    have hpl : p < (waysOf ways l).length := by rw [waysOf_len]; omega
    have hpl' : p < l.length := by omega
    have hwp : (waysOf ways l)[p] = hashL l[p].name % ways := by simp [waysOf]
    rw [nextF_step hpl, List.range'_succ, List.find?_cons, goodAt_is hpl']
    by_cases hk : (waysOf ways l)[p] = hashL name % ways
    · rw [if_pos hk, wayL, if_pos ⟨by omega, by omega⟩, List.find?_cons, Nat.add_sub_cancel, goodAt_is hpl']
      cases good name l[p] with
      | true => rfl
      | false =>
        rw [numAt_words _ (hashN_lt ways _ hw2 (by rw [waysOf_len]; exact hl)), hashN_next ways _ p hpl, hk]
        exact way_first l name ways hw hw2 hl d (p + 1) f (by omega) (by omega)
    · have hg : good name l[p] = false := by
        unfold good
        rw [decide_eq_false (fun e => hk (by rw [hwp, e]))]
        rfl
      rw [if_neg hk, hg]
      exact way_first l name ways hw hw2 hl d (p + 1) (f + 1) (by omega) (by omega)
theorem findL_first (l : List SymD) (name : List UInt8) (ways : Nat) (hw : 0 < ways) (hw2 : ways < 4294967296) (hl : l.length < 1000000) :
    findL (wordsL (hashN ways (waysOf ways l))) l name = (List.range l.length).find? (goodAt l name) := by
  have hn := hashN_lt ways (waysOf ways l) hw2 (by rw [waysOf_len]; exact hl)
  rw [findL_chain]
  unfold chainL
  rw [numAt_words _ hn, hashN_0]
  dsimp only
  rw [if_neg (by omega), numAt_words _ hn, hashN_first ways _ _ (Nat.mod_lt _ hw), way_first l name ways hw hw2 hl l.length 0 (l.length + 1) (by omega) (by omega), List.range_eq_range']
end Go.Proofs.YtlifdfkconklfaaDoor
