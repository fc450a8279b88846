/-
  Bytes stored in a list of cells: plain law.
-/
import Derived.Test.YtbaelhaajplbnaaFHoP
namespace Go.Proofs.Ytbaelhaajplbnaa
set_option linter.unusedVariables false
set_option linter.unusedSimpArgs false

def keepW (a b : Nat) : Nat := a &&& (18446744073709551615 - b)
def storeL (cs : List CellD) (x n v : Nat) : List CellD :=
  if (2 ^ (8 * n) - 1) / 2 / 2 ^ (63 - 8 * (x % 8)) ≠ 0 ∧ 0 < x % 8 then
    setL (setL cs (x - x % 8) (keepW (wordL cs (x - x % 8)) ((2 ^ (8 * n) - 1) * 2 ^ (8 * (x % 8)) % 18446744073709551616) ||| v % 2 ^ (8 * n) * 2 ^ (8 * (x % 8)) % 18446744073709551616)) (x - x % 8 + 8)
      (keepW (wordL cs (x - x % 8 + 8)) ((2 ^ (8 * n) - 1) / 2 / 2 ^ (63 - 8 * (x % 8))) ||| v % 2 ^ (8 * n) / 2 ^ (64 - 8 * (x % 8)))
  else setL cs (x - x % 8) (keepW (wordL cs (x - x % 8)) ((2 ^ (8 * n) - 1) * 2 ^ (8 * (x % 8)) % 18446744073709551616) ||| v % 2 ^ (8 * n) * 2 ^ (8 * (x % 8)) % 18446744073709551616)

theorem keepW_bit {a b j : Nat} (hb : b < 18446744073709551616) (hj : j < 64) : (keepW a b).testBit j = (a.testBit j && !b.testBit j) := by
  have h := Nat.testBit_two_pow_sub_succ (x := b) (n := 64) (by simpa using hb) j
  rw [show 2 ^ 64 - (b + 1) = 18446744073709551615 - b by omega] at h
  rw [keepW, Nat.testBit_and, h]
  simp [hj]
theorem keepW_lt {a b : Nat} : keepW a b < 18446744073709551616 := by
  have h : keepW a b < 2 ^ 64 := Nat.and_lt_two_pow a (by show _ < 18446744073709551616; omega)
  simpa using h
theorem hi_iff {n r : Nat} (hn : 1 ≤ n) (hn8 : n ≤ 8) (hr : r < 8) : ((2 ^ (8 * n) - 1) / 2 / 2 ^ (63 - 8 * r) ≠ 0 ∧ 0 < r) ↔ 8 < r + n := by
  have e : (2 ^ (8 * n) - 1) / 2 = 2 ^ (8 * n - 1) - 1 := by
    obtain ⟨k, hk⟩ : ∃ k, 8 * n = k + 1 := ⟨8 * n - 1, by omega⟩
    rw [hk, Nat.pow_succ, Nat.add_sub_cancel]; omega
  rw [e]
  constructor
  · rintro ⟨h1, h2⟩
    refine Classical.byContradiction fun h => h1 (Nat.div_eq_of_lt ?_)
    have : 2 ^ (8 * n - 1) ≤ 2 ^ (63 - 8 * r) := Nat.pow_le_pow_right (by omega) (by omega)
    have := Nat.two_pow_pos (8 * n - 1)
    omega
  · intro h
    refine ⟨fun h0 => ?_, by omega⟩
    have h1 := Nat.lt_of_div_eq_zero (Nat.two_pow_pos _) h0
    have h2 : 2 ^ (63 - 8 * r + 1) ≤ 2 ^ (8 * n - 1) := Nat.pow_le_pow_right (by omega) (by omega)
    rw [Nat.pow_succ] at h2
    have := Nat.two_pow_pos (63 - 8 * r)
    omega
theorem low_bit {a n v r j : Nat} (hn8 : n ≤ 8) (hr : r < 8) (hj : j < 64) :
    (keepW a ((2 ^ (8 * n) - 1) * 2 ^ (8 * r) % 18446744073709551616) ||| v % 2 ^ (8 * n) * 2 ^ (8 * r) % 18446744073709551616).testBit j = if 8 * r ≤ j ∧ j < 8 * r + 8 * n then v.testBit (j - 8 * r) else a.testBit j := by
  rw [Nat.testBit_or, keepW_bit (Nat.mod_lt _ (by omega)) hj]
  rw [show (18446744073709551616 : Nat) = 2 ^ 64 from rfl]
  simp only [Nat.testBit_mod_two_pow, Nat.testBit_mul_two_pow, Nat.testBit_two_pow_sub_one, hj, decide_true, Bool.true_and]
  by_cases h1 : 8 * r ≤ j
  · by_cases h2 : j - 8 * r < 8 * n
    · rw [if_pos ⟨h1, by omega⟩]; simp [h1, h2]
    · rw [if_neg (by omega)]; simp [h1, h2]
  · rw [if_neg (by omega)]; simp [h1]
theorem high_bit {a n v r j : Nat} (hn : 1 ≤ n) (hn8 : n ≤ 8) (hr : r < 8) (hr0 : 0 < r) (hj : j < 64) :
    (keepW a ((2 ^ (8 * n) - 1) / 2 / 2 ^ (63 - 8 * r)) ||| v % 2 ^ (8 * n) / 2 ^ (64 - 8 * r)).testBit j = if j + 64 < 8 * r + 8 * n then v.testBit (j + 64 - 8 * r) else a.testBit j := by
  have hlt : (2 ^ (8 * n) - 1) / 2 / 2 ^ (63 - 8 * r) < 18446744073709551616 := by
    have h1 : 2 ^ (8 * n) ≤ 2 ^ 64 := Nat.pow_le_pow_right (by omega) (by omega)
    have h2 : (2 : Nat) ^ 64 = 18446744073709551616 := rfl
    have h3 := Nat.div_le_self ((2 ^ (8 * n) - 1) / 2) (2 ^ (63 - 8 * r))
    have := Nat.two_pow_pos (8 * n)
    omega
  rw [Nat.testBit_or, keepW_bit hlt hj]
  have e2 : ∀ x : Nat, (x / 2).testBit j = x.testBit (j + 1) := fun x => by rw [Nat.testBit_succ]
  rw [show (2 ^ (8 * n) - 1) / 2 / 2 ^ (63 - 8 * r) = (2 ^ (8 * n) - 1) / 2 ^ (64 - 8 * r) by
    rw [Nat.div_div_eq_div_mul, ← Nat.pow_succ', show (63 - 8 * r).succ = 64 - 8 * r by omega]]
  simp only [Nat.testBit_div_two_pow, Nat.testBit_mod_two_pow, Nat.testBit_two_pow_sub_one]
  by_cases h : j + 64 < 8 * r + 8 * n
  · rw [if_pos h]
    have h1 : 64 - 8 * r + j < 8 * n := by omega
    have e6 : j + (64 - 8 * r) = j + 64 - 8 * r := by omega
    rw [Nat.add_comm] at h1
    rw [e6] at h1 ⊢
    simp only [h1, decide_true, Bool.not_true, Bool.and_false, Bool.true_and, Bool.false_or]
  · rw [if_neg h]
    have h1 : ¬ 64 - 8 * r + j < 8 * n := by omega
    simp [h1, show ¬ j + (64 - 8 * r) < 8 * n by omega]

theorem low_lt {a n v r : Nat} : keepW a ((2 ^ (8 * n) - 1) * 2 ^ (8 * r) % 18446744073709551616) ||| v % 2 ^ (8 * n) * 2 ^ (8 * r) % 18446744073709551616 < 18446744073709551616 := by
  have h := Nat.or_lt_two_pow (n := 64) (x := keepW a ((2 ^ (8 * n) - 1) * 2 ^ (8 * r) % 18446744073709551616)) (y := v % 2 ^ (8 * n) * 2 ^ (8 * r) % 18446744073709551616) (by simpa using keepW_lt) (by simpa using Nat.mod_lt _ (by omega))
  simpa using h
theorem high_lt {a n v r : Nat} (hn8 : n ≤ 8) : keepW a ((2 ^ (8 * n) - 1) / 2 / 2 ^ (63 - 8 * r)) ||| v % 2 ^ (8 * n) / 2 ^ (64 - 8 * r) < 18446744073709551616 := by
  have h0 : v % 2 ^ (8 * n) / 2 ^ (64 - 8 * r) < 2 ^ 64 := by
    have h1 : 2 ^ (8 * n) ≤ 2 ^ 64 := Nat.pow_le_pow_right (by omega) (by omega)
    have h2 := Nat.mod_lt v (Nat.two_pow_pos (8 * n))
    have h3 := Nat.div_le_self (v % 2 ^ (8 * n)) (2 ^ (64 - 8 * r))
    omega
  have h := Nat.or_lt_two_pow (n := 64) (x := keepW a ((2 ^ (8 * n) - 1) / 2 / 2 ^ (63 - 8 * r))) (y := v % 2 ^ (8 * n) / 2 ^ (64 - 8 * r)) (by simpa using keepW_lt) h0
  simpa using h

theorem byte_ext {x y r : Nat} (h : ∀ i, i < 8 → x.testBit (8 * r + i) = y.testBit (8 * r + i)) : x / 2 ^ (8 * r) % 256 = y / 2 ^ (8 * r) % 256 := by
  rw [show 256 = 2 ^ 8 from rfl]
  refine Nat.eq_of_testBit_eq fun i => ?_
  simp only [Nat.testBit_mod_two_pow, Nat.testBit_div_two_pow]
  by_cases hi : i < 8
  · have h' := h i hi
    rw [Nat.add_comm (8 * r) i] at h'
    rw [h']
  · simp [hi]
theorem byte_ext2 {x y r q : Nat} (h : ∀ i, i < 8 → x.testBit (8 * r + i) = y.testBit (8 * q + i)) : x / 2 ^ (8 * r) % 256 = y / 2 ^ (8 * q) % 256 := by
  rw [show 256 = 2 ^ 8 from rfl]
  refine Nat.eq_of_testBit_eq fun i => ?_
  simp only [Nat.testBit_mod_two_pow, Nat.testBit_div_two_pow]
  by_cases hi : i < 8
  · have h' := h i hi
    rw [Nat.add_comm (8 * r) i, Nat.add_comm (8 * q) i] at h'
    rw [h']
  · simp [hi]

theorem wordL_storeL {cs : List CellD} (hr : Rise CellD.pos cs) {x n v : Nat} (hn : 1 ≤ n) (hn8 : n ≤ 8) (b : Nat) : wordL (storeL cs x n v) b =
    if b = x - x % 8 then keepW (wordL cs b) ((2 ^ (8 * n) - 1) * 2 ^ (8 * (x % 8)) % 18446744073709551616) ||| v % 2 ^ (8 * n) * 2 ^ (8 * (x % 8)) % 18446744073709551616
    else if b = x - x % 8 + 8 ∧ 8 < x % 8 + n then keepW (wordL cs b) ((2 ^ (8 * n) - 1) / 2 / 2 ^ (63 - 8 * (x % 8))) ||| v % 2 ^ (8 * n) / 2 ^ (64 - 8 * (x % 8))
    else wordL cs b := by
  have hi := hi_iff (n := n) (r := x % 8) hn hn8 (Nat.mod_lt _ (by omega))
  unfold storeL
  by_cases h : 8 < x % 8 + n
  · rw [if_pos (hi.2 h), wordL_setL (setL_rise hr _ _), wordL_setL hr]
    by_cases h1 : b = x - x % 8
    · rw [if_neg (by omega), if_pos h1, if_pos h1, h1]
    · by_cases h2 : b = x - x % 8 + 8
      · rw [if_pos h2, if_neg h1, if_pos ⟨h2, h⟩, h2]
      · rw [if_neg h2, if_neg h1, if_neg h1, if_neg (fun h => h2 h.1)]
  · rw [if_neg (fun h' => h (hi.1 h')), wordL_setL hr]
    by_cases h1 : b = x - x % 8
    · rw [if_pos h1, if_pos h1, h1]
    · rw [if_neg h1, if_neg h1, if_neg (fun h' => h h'.2)]

/-- A byte behind a store: the number's, within its bytes; what it was, elsewhere. -/
theorem peekL_storeL {cs : List CellD} (hr : Rise CellD.pos cs) {x n v : Nat} (hn : 1 ≤ n) (hn8 : n ≤ 8) (p : Nat) : peekL (storeL cs x n v) p = if x ≤ p ∧ p < x + n then v / 256 ^ (p - x) % 256 else peekL cs p := by
  have hp8 : p % 8 < 8 := Nat.mod_lt _ (by omega)
  have hx8 : x % 8 < 8 := Nat.mod_lt _ (by omega)
  have hpow : ∀ k, 256 ^ k = 2 ^ (8 * k) := fun k => by rw [show 256 = 2 ^ 8 from rfl, ← Nat.pow_mul]
  unfold peekL
  rw [wordL_storeL hr hn hn8]
  by_cases h1 : p - p % 8 = x - x % 8
  · rw [if_pos h1]
    by_cases hin : x ≤ p ∧ p < x + n
    · rw [if_pos hin, hpow]
      refine byte_ext2 fun i hi => ?_
      rw [low_bit hn8 hx8 (by omega), if_pos (by omega)]
      congr 1; omega
    · rw [if_neg hin]
      refine byte_ext fun i hi => ?_
      rw [low_bit hn8 hx8 (by omega), if_neg (by omega)]
  · rw [if_neg h1]
    by_cases h2 : p - p % 8 = x - x % 8 + 8 ∧ 8 < x % 8 + n
    · rw [if_pos h2]
      by_cases hin : x ≤ p ∧ p < x + n
      · rw [if_pos hin, hpow]
        refine byte_ext2 fun i hi => ?_
        rw [high_bit hn hn8 hx8 (by omega) (by omega), if_pos (by omega)]
        congr 1; omega
      · rw [if_neg hin]
        refine byte_ext fun i hi => ?_
        rw [high_bit hn hn8 hx8 (by omega) (by omega), if_neg (by omega)]
    · rw [if_neg h2, if_neg (by omega)]

/-- What can be, of cells. -/
structure CellsOk (cs : List CellD) : Prop where
  rise : Rise CellD.pos cs
  eight : ∀ c ∈ cs, c.pos % 8 = 0
  some : ∀ c ∈ cs, c.word ≠ 0
  pos : ∀ c ∈ cs, c.pos < 18446744073709551616
  word : ∀ c ∈ cs, c.word < 18446744073709551616
theorem CellsOk.set {cs : List CellD} (h : CellsOk cs) {a w : Nat} (h8 : a % 8 = 0) (ha : a < 18446744073709551616) (hw : w < 18446744073709551616) : CellsOk (setL cs a w) :=
  ⟨setL_rise h.rise a w, fun c hc => by rcases setL_pos hc with hc | ⟨rfl, _⟩; exact h.eight c hc; exact h8, fun c hc => by rcases setL_pos hc with hc | ⟨rfl, hn⟩; exact h.some c hc; exact hn,
    fun c hc => by rcases setL_pos hc with hc | ⟨rfl, _⟩; exact h.pos c hc; exact ha, fun c hc => by rcases setL_pos hc with hc | ⟨rfl, _⟩; exact h.word c hc; exact hw⟩
theorem CellsOk.store {cs : List CellD} (h : CellsOk cs) {x n v : Nat} (hn : 1 ≤ n) (hn8 : n ≤ 8) (hx : x + n ≤ 18446744073709551616) : CellsOk (storeL cs x n v) := by
  have hx8 : x % 8 < 8 := Nat.mod_lt _ (by omega)
  unfold storeL
  split
  · rename_i hh
    have := (hi_iff hn hn8 hx8).1 hh
    exact (h.set (by omega) (by omega) low_lt).set (by omega) (by omega) (high_lt hn8)
  · exact h.set (by omega) (by omega) low_lt
theorem setL_len (cs : List CellD) (a w : Nat) : (setL cs a w).length ≤ cs.length + 1 := by
  induction cs with
  | nil => simp only [setL]; split <;> simp
  | cons c cs ih =>
    simp only [setL]
    split
    · simp only [List.length_cons]; omega
    · split
      · split <;> simp only [List.length_cons] <;> omega
      · split <;> simp only [List.length_cons] <;> omega
theorem storeL_len (cs : List CellD) (x n v : Nat) : (storeL cs x n v).length ≤ cs.length + 2 := by
  unfold storeL
  split
  · have h1 := setL_len cs (x - x % 8) (keepW (wordL cs (x - x % 8)) ((2 ^ (8 * n) - 1) * 2 ^ (8 * (x % 8)) % 18446744073709551616) ||| v % 2 ^ (8 * n) * 2 ^ (8 * (x % 8)) % 18446744073709551616)
    have h2 := setL_len (setL cs (x - x % 8) (keepW (wordL cs (x - x % 8)) ((2 ^ (8 * n) - 1) * 2 ^ (8 * (x % 8)) % 18446744073709551616) ||| v % 2 ^ (8 * n) * 2 ^ (8 * (x % 8)) % 18446744073709551616)) (x - x % 8 + 8)
      (keepW (wordL cs (x - x % 8 + 8)) ((2 ^ (8 * n) - 1) / 2 / 2 ^ (63 - 8 * (x % 8))) ||| v % 2 ^ (8 * n) / 2 ^ (64 - 8 * (x % 8)))
    omega
  · have := setL_len cs (x - x % 8) (keepW (wordL cs (x - x % 8)) ((2 ^ (8 * n) - 1) * 2 ^ (8 * (x % 8)) % 18446744073709551616) ||| v % 2 ^ (8 * n) * 2 ^ (8 * (x % 8)) % 18446744073709551616)
    omega
end Go.Proofs.Ytbaelhaajplbnaa
