/-
  Bytes put into cells: plain law.
-/
import Derived.Test.YtbaelhaajplbnaaFHoS
import Derived.Test.YtbaelhaajplbnaaFStr
namespace Go.Proofs.Ytbaelhaajplbnaa
open Go
set_option linter.unusedVariables false
set_option linter.unusedSimpArgs false

def putAll (cs : List CellD) (x : Nat) (s : List UInt8) : List CellD := if h : s = [] then cs else putAll (storeL cs x (min s.length 8) (leN (s.take 8))) (x + min s.length 8) (s.drop 8)
termination_by s.length
decreasing_by
  rw [List.length_drop]
  have := List.length_pos_iff.2 h
  omega

theorem putAll_nil (cs : List CellD) (x : Nat) : putAll cs x [] = cs := by unfold putAll; rfl
theorem putAll_step {cs : List CellD} {x : Nat} {s : List UInt8} (h : s ≠ []) : putAll cs x s = putAll (storeL cs x (min s.length 8) (leN (s.take 8))) (x + min s.length 8) (s.drop 8) := by
  conv => lhs; unfold putAll
  rw [dif_neg h]

theorem leN_cons (c : UInt8) (l : List UInt8) : leN (c :: l) = c.toNat + 256 * leN l := by
  simp only [leN, List.reverse_cons]
  have h := beN_snoc l.reverse c
  omega
theorem leN_byte : ∀ (l : List UInt8) (j : Nat) (h : j < l.length), leN l / 256 ^ j % 256 = l[j].toNat
  | c :: l, 0, _ => by
    rw [leN_cons]
    have := c.toNat_lt
    simp
  | c :: l, j + 1, h => by
    have ih := leN_byte l j (by simpa using h)
    rw [leN_cons, Nat.pow_succ', ← Nat.div_div_eq_div_mul]
    have := c.toNat_lt
    rw [show (c.toNat + 256 * leN l) / 256 = leN l by omega]
    exact ih

theorem putAll_facts : ∀ (k : Nat) (cs : List CellD) (x : Nat) (s : List UInt8), s.length ≤ k → CellsOk cs → x + s.length ≤ 18446744073709551616 →
    CellsOk (putAll cs x s) ∧ (putAll cs x s).length ≤ cs.length + 2 * s.length ∧ ∀ p, peekL (putAll cs x s) p = if h : x ≤ p ∧ p < x + s.length then (s[p - x]'(by omega)).toNat else peekL cs p := by
  intro k
  induction k with
  | zero =>
    intro cs x s hk hc hx
    obtain rfl : s = [] := List.length_eq_zero_iff.1 (by omega)
    rw [putAll_nil]
    exact ⟨hc, by simp, fun p => by rw [dif_neg (by rintro ⟨h1, h2⟩; simp at h2; omega)]⟩
  | succ k ih =>
    intro cs x s hk hc hx
    by_cases h0 : s = []
    · subst h0
      rw [putAll_nil]
      exact ⟨hc, by simp, fun p => by rw [dif_neg (by rintro ⟨h1, h2⟩; simp at h2; omega)]⟩
    · have hpos := List.length_pos_iff.2 h0
      obtain ⟨n, hn⟩ : ∃ n, n = min s.length 8 := ⟨_, rfl⟩
      have hn1 : 1 ≤ n := by omega
      have hn8 : n ≤ 8 := by omega
      have hns : n ≤ s.length := by omega
      have htk : s.take 8 = s.take n := by
        rw [hn]
        by_cases h8 : s.length ≤ 8
        · rw [Nat.min_eq_left h8, List.take_of_length_le h8, List.take_length]
        · rw [Nat.min_eq_right (by omega)]
      have hdp : s.drop 8 = s.drop n := by
        rw [hn]
        by_cases h8 : s.length ≤ 8
        · rw [Nat.min_eq_left h8, List.drop_length, List.drop_of_length_le h8]
        · rw [Nat.min_eq_right (by omega)]
      rw [putAll_step h0, ← hn, htk, hdp]
      obtain ⟨i1, i2, i3⟩ := ih (storeL cs x n (leN (s.take n))) (x + n) (s.drop n) (by rw [List.length_drop]; omega) (hc.store hn1 hn8 (by omega)) (by rw [List.length_drop]; omega)
      refine ⟨i1, ?_, fun p => ?_⟩
      · have := storeL_len cs x n (leN (s.take n))
        rw [List.length_drop] at i2
        omega
      · rw [i3 p]
        by_cases hp : x ≤ p ∧ p < x + s.length
        · rw [dif_pos hp]
          by_cases hp2 : x + n ≤ p
          · rw [dif_pos ⟨hp2, by rw [List.length_drop]; omega⟩, List.getElem_drop]
            congr 2; omega
          · rw [dif_neg (by omega), peekL_storeL hc.rise hn1 hn8, if_pos ⟨hp.1, by omega⟩]
            rw [leN_byte _ _ (by rw [List.length_take]; omega), List.getElem_take]
        · rw [dif_neg hp, dif_neg (by rw [List.length_drop]; omega), peekL_storeL hc.rise hn1 hn8, if_neg (by omega)]
end Go.Proofs.Ytbaelhaajplbnaa
