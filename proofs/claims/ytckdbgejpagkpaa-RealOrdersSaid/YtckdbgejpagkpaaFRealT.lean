/-
  Numbers with a point, in plain Lean: what is cut lies between two whole numbers, and stays when cut again; a whole number comes back; picks, and the order's turning.
-/
import Derived.Test.YtckdbgejpagkpaaFRealS
namespace Go.Proofs.Ytckdbgejpagkpaa
open Go Go.RowKit
set_option linter.unusedVariables false
set_option linter.unusedSimpArgs false

theorem moreB_zero (t : Ieee.Toward) (s : Bool) (gap low : Nat) (h : 0 < gap) : moreB t s gap 0 low = false := by
  cases t
  · show (decide (gap < 2 * 0) || (gap == 2 * 0 && low % 2 == 1)) = false
    rw [decide_eq_false (by omega), show (gap == 2 * 0) = false by rw [beq_eq_false_iff_ne]; omega]; rfl
  · show (s && 0 != 0) = false
    simp
  · show (!s && 0 != 0) = false
    simp
  · rfl
theorem mid_self (t : Ieee.Toward) (s : Bool) (r d : Nat) (h1 : 4607182418800017408 ≤ r) (hd : r / 4503599627370496 + d = 1075) (hd1 : 1 ≤ d) (h0 : r % 2 ^ d = 0) : cutR t (Ieee.double.word s r) = Ieee.double.word s r := by
  have hr : rung (Ieee.double.word s r) = r := word_rung s r (by omega)
  have hs : sgn (Ieee.double.word s r) = s := sgn_word s r (by omega)
  obtain ⟨L, q, n, m, g, hL, hL1, hL2, hq, hqL, hqz, hn', hnL, hm, hmn, hg, hmq, hodd⟩ := mid_facts r d h1 hd hd1
  have q0 : q = 0 := by rw [hq, hL, h0]
  rw [cutR, round_mid t (d := d) (by rw [hr]; exact h1) (by rw [hr]; exact hd) hd1, hr, hs, ← hL, hmq, q0, moreB_zero _ _ _ _ (by omega), ← hq, q0]
  simp
theorem zero_self (t : Ieee.Toward) (s : Bool) : cutR t (Ieee.double.word s 0) = Ieee.double.word s 0 := by
  have hr : rung (Ieee.double.word s 0) = 0 := word_rung s 0 (by omega)
  rw [cutR, round_small t (by rw [hr]; omega), hr, sgn_word s 0 (by omega)]
  cases t <;> cases s <;> rfl
theorem big_self (t : Ieee.Toward) {a : Nat} (h : a < 18446744073709551616) (h1 : 4841369599423283200 ≤ rung a) (h2 : rung a ≤ 9218868437227405312) : cutR t a = a := by
  by_cases c : rung a = 9218868437227405312
  · have hinf : Ieee.double.infRung = 9218868437227405312 := by decide
    rw [cutR, read_inf c]
    show Ieee.double.word (sgn a) Ieee.double.infRung = a
    rw [hinf, ← c, word_is h]
  · rw [cutR, round_big t h h1 (by omega)]
theorem word_lt' (s : Bool) (r : Nat) (h : r < 9223372036854775808) : Ieee.double.word s r < 18446744073709551616 := by
  have hs : Ieee.double.signWeight = 9223372036854775808 := by decide
  unfold Ieee.Format.word
  rw [hs]
  split <;> omega
/-- What is cut, by the whole numbers on both sides. -/
structure Between (a lo hi : Nat) : Prop where
  lo_le : lo ≤ rung a
  lt_hi : rung a < hi
  hi_lt : hi < 9223372036854775808
  zero : cutR .zero a = Ieee.double.word (sgn a) lo
  down : cutR .down a = Ieee.double.word (sgn a) (if sgn a && decide (rung a ≠ lo) then hi else lo)
  up : cutR .up a = Ieee.double.word (sgn a) (if !sgn a && decide (rung a ≠ lo) then hi else lo)
  even : cutR .even a = Ieee.double.word (sgn a) lo ∨ (rung a ≠ lo ∧ cutR .even a = Ieee.double.word (sgn a) hi)
  loself : ∀ t s, cutR t (Ieee.double.word s lo) = Ieee.double.word s lo
  hiself : rung a ≠ lo → ∀ t s, cutR t (Ieee.double.word s hi) = Ieee.double.word s hi
theorem between (a : Nat) (h : a < 18446744073709551616) (hn : nanB a = false) : ∃ lo hi, Between a lo hi := by
  have hle := of_decide_eq_false hn
  by_cases hbig : 4841369599423283200 ≤ rung a
  · have e := fun t => big_self t h hbig (by omega)
    have w := word_is h
    refine ⟨rung a, rung a + 1, Nat.le_refl _, Nat.lt_succ_self _, by omega, by rw [e, w], by rw [e]; simp [w], by rw [e]; simp [w], .inl (by rw [e, w]), fun t s => ?_, fun k => absurd rfl k⟩
    have hr : rung (Ieee.double.word s (rung a)) = rung a := word_rung s _ (rung_lt a)
    exact big_self t (word_lt' s _ (rung_lt a)) (by rw [hr]; exact hbig) (by rw [hr]; omega)
  · by_cases hsm : rung a < 4607182418800017408
    · have e : ∀ t, cutR t a = Ieee.double.word (sgn a) (if smallUp t (sgn a) (rung a) then 4607182418800017408 else 0) := fun t => by rw [cutR, round_small t hsm]
      have e0 : (rung a != 0) = decide (rung a ≠ 0) := by rw [Bool.eq_iff_iff]; simp
      refine ⟨0, 4607182418800017408, Nat.zero_le _, hsm, by omega, e .zero, ?_, ?_, ?_, fun t s => zero_self t s, fun _ t s => mid_self t s 4607182418800017408 52 (by omega) (by decide) (by omega) (by decide)⟩
      · rw [e]; show Ieee.double.word (sgn a) (if (sgn a && rung a != 0) = true then _ else _) = _
        rw [e0]
      · rw [e]; show Ieee.double.word (sgn a) (if (!sgn a && rung a != 0) = true then _ else _) = _
        rw [e0]
      · rw [e]
        cases hu : smallUp .even (sgn a) (rung a)
        · exact .inl rfl
        · have := of_decide_eq_true hu
          exact .inr ⟨by omega, rfl⟩
    · obtain ⟨d, hd⟩ : ∃ d, d = 1075 - rung a / 4503599627370496 := ⟨_, rfl⟩
      have hd0 : rung a / 4503599627370496 + d = 1075 := by omega
      have hd1 : 1 ≤ d := by omega
      obtain ⟨L, q, n, m, g, hL, hL1, hL2, hq, hqL, hqz, hn', hnL, hm, hmn, hg, hmq, hodd⟩ := mid_facts (rung a) d (by omega) hd0 hd1
      have e : ∀ t, cutR t a = Ieee.double.word (sgn a) (n + (moreB t (sgn a) L q (mant (rung a) / L)).toNat * L) := fun t => by
        rw [cutR, round_mid t (d := d) (by omega) hd0 hd1, ← hL, hmq, ← hq, show rung a - q = n by omega]
      -- the lower one keeps its binade
      obtain ⟨k, hk⟩ : ∃ k, k = 52 - d := ⟨_, rfl⟩
      have hB : (4503599627370496 : Nat) = 2 ^ k * L := by rw [hL, ← Nat.pow_add, show k + d = 52 by omega]
      have hq2 : q = rung a % 4503599627370496 % L := by rw [hq, hB, Nat.mod_mul_left_mod]
      have hq3 : q ≤ rung a % 4503599627370496 := by rw [hq2]; exact Nat.mod_le _ _
      have hnE : n / 4503599627370496 = rung a / 4503599627370496 := by omega
      have hnd : n / 4503599627370496 + d = 1075 := by omega
      have hn1 : 4607182418800017408 ≤ n := by omega
      have hnm : n % L = 0 := by
        have : rung a % L = q := hq.symm
        have hx : n = rung a - rung a % L := by omega
        rw [hx]
        have := Nat.div_add_mod (rung a) L
        rw [show rung a - rung a % L = L * (rung a / L) by omega]
        exact Nat.mul_mod_right _ _
      have hnBm : n % 4503599627370496 + L ≤ 4503599627370496 := by
        have hj : n % 4503599627370496 % L = 0 := by rw [hB, Nat.mod_mul_left_mod]; exact hnm
        have hlt : n % 4503599627370496 < 4503599627370496 := Nat.mod_lt _ (by omega)
        obtain ⟨c, hc⟩ := Nat.dvd_of_mod_eq_zero hj
        obtain ⟨P, hP⟩ : ∃ P, P = 2 ^ k := ⟨_, rfl⟩
        rw [← hP] at hB
        have hc2 : L * c < L * P := by rw [← hc, Nat.mul_comm L P, ← hB]; exact hlt
        have hcP : c < P := Nat.lt_of_mul_lt_mul_left hc2
        have : L * (c + 1) ≤ L * P := Nat.mul_le_mul_left _ hcP
        rw [Nat.mul_comm L P, ← hB, Nat.mul_add, Nat.mul_one, ← hc] at this
        exact this
      have hqb : (q != 0) = decide (rung a ≠ n) := by rw [Bool.eq_iff_iff]; simp; omega
      refine ⟨n, n + L, by omega, by omega, by omega, ?_, ?_, ?_, ?_, fun t s => mid_self t s n d hn1 hnd hd1 (by rw [← hL]; exact hnm), fun _ t s => ?_⟩
      · rw [e]; show Ieee.double.word (sgn a) (n + (false).toNat * L) = _
        simp
      · rw [e]; show Ieee.double.word (sgn a) (n + (sgn a && q != 0).toNat * L) = _
        rw [hqb]
        cases (sgn a && decide (rung a ≠ n)) <;> simp
      · rw [e]; show Ieee.double.word (sgn a) (n + (!sgn a && q != 0).toNat * L) = _
        rw [hqb]
        cases (!sgn a && decide (rung a ≠ n)) <;> simp
      · rw [e]
        by_cases q0 : q = 0
        · left
          rw [q0, moreB_zero _ _ _ _ (by omega)]; simp
        · cases moreB .even (sgn a) L q (mant (rung a) / L)
          · left; simp
          · right; exact ⟨by omega, by simp⟩
      · by_cases c1 : (n + L) / 4503599627370496 = n / 4503599627370496
        · exact mid_self t s (n + L) d (by omega) (by omega) hd1 (by rw [← hL, Nat.add_mod_right]; exact hnm)
        · have c2 : n % 4503599627370496 + L = 4503599627370496 := by omega
          have c3 : (n + L) / 4503599627370496 = n / 4503599627370496 + 1 := by omega
          have c4 : (n + L) % 4503599627370496 = 0 := by omega
          by_cases c5 : d = 1
          · have hr : rung (Ieee.double.word s (n + L)) = n + L := word_rung s _ (by omega)
            exact big_self t (word_lt' s _ (by omega)) (by rw [hr]; omega) (by rw [hr]; omega)
          · refine mid_self t s (n + L) (d - 1) (by omega) (by omega) (by omega) ?_
            have hB2 : (4503599627370496 : Nat) = 2 ^ (53 - d) * 2 ^ (d - 1) := by rw [← Nat.pow_add, show 53 - d + (d - 1) = 52 by omega]
            have : (n + L) % 4503599627370496 % 2 ^ (d - 1) = (n + L) % 2 ^ (d - 1) := by rw [hB2, Nat.mod_mul_left_mod]
            rw [← this, c4]; simp
/-- Cut twice is cut once. -/
theorem cut_twice (t : Ieee.Toward) (a : Nat) (h : a < 18446744073709551616) (hn : nanB a = false) : cutR t (cutR t a) = cutR t a := by
  obtain ⟨lo, hi, B⟩ := between a h hn
  cases t
  · rcases B.even with e | ⟨e, e2⟩
    · rw [e]; exact B.loself _ _
    · rw [e2]; exact B.hiself e _ _
  · rw [B.down]
    cases c : (sgn a && decide (rung a ≠ lo))
    · exact B.loself _ _
    · rw [Bool.and_eq_true] at c
      exact B.hiself (of_decide_eq_true c.2) _ _
  · rw [B.up]
    cases c : (!sgn a && decide (rung a ≠ lo))
    · exact B.loself _ _
    · rw [Bool.and_eq_true] at c
      exact B.hiself (of_decide_eq_true c.2) _ _
  · rw [B.zero]; exact B.loself _ _
theorem word_ne (s : Bool) {x y : Nat} (hx : x < 9223372036854775808) (hy : y < 9223372036854775808) : Ieee.double.word s x = Ieee.double.word s y ↔ x = y := by
  constructor
  · intro e
    rw [← word_rung s x hx, ← word_rung s y hy, e]
  · intro e; rw [e]
/-- Rounded down, up, to nought, to the nearest. -/
theorem rounds_plain (a : Nat) (h : a < 18446744073709551616) (hn : nanB a = false) :
    rank (cutR .down a) ≤ rank a ∧ rank a ≤ rank (cutR .up a) ∧ (cutR .zero a = cutR .down a ∨ cutR .zero a = cutR .up a) ∧ (cutR .even a = cutR .down a ∨ cutR .even a = cutR .up a) ∧ (cutR .down a = cutR .up a ↔ cutR .down a = a) := by
  obtain ⟨lo, hi, B⟩ := between a h hn
  obtain ⟨b1, b2, b3, b4, b5, b6, b7, _, _⟩ := B
  have ha : a = Ieee.double.word (sgn a) (rung a) := (word_is h).symm
  have hl := rung_lt a
  rw [b4, b5, b6]
  by_cases e : rung a = lo
  · rw [decide_eq_false (by simp [e])]
    simp only [Bool.and_false, Bool.false_eq_true, if_false]
    rw [← e, word_is h]
    refine ⟨Int.le_refl _, Int.le_refl _, .inl (by first | rfl | trivial), .inl ?_, by simp⟩
    rcases b7 with k | ⟨k, _⟩
    · rw [k, ← e, word_is h]
    · exact absurd e k
  · rw [decide_eq_true (show rung a ≠ lo from e)]
    have r1 := rank_word (sgn a) lo (by omega)
    have r2 := rank_word (sgn a) hi (by omega)
    have r3 := rank_word (sgn a) (rung a) hl
    rw [← ha] at r3
    have e7 : cutR .even a = Ieee.double.word (sgn a) lo ∨ cutR .even a = Ieee.double.word (sgn a) hi := by
      rcases b7 with k | ⟨_, k⟩
      · exact .inl k
      · exact .inr k
    cases hs : sgn a
    · rw [hs] at r1 r2 r3 e7
      simp only [Bool.false_and, Bool.not_false, Bool.true_and, Bool.false_eq_true, if_false, if_true] at *
      refine ⟨by rw [r1, r3]; omega, by rw [r2, r3]; omega, .inl (by first | rfl | trivial), e7, ?_⟩
      rw [word_ne false (by omega) (by omega)]
      constructor
      · intro k; omega
      · intro k
        have := congrArg rung k
        rw [word_rung _ _ (by omega)] at this
        omega
    · rw [hs] at r1 r2 r3 e7
      simp only [Bool.true_and, Bool.not_true, Bool.false_and, Bool.false_eq_true, if_false, if_true] at *
      refine ⟨by rw [r2, r3]; omega, by rw [r1, r3]; omega, .inr (by first | rfl | trivial), e7.symm, ?_⟩
      rw [word_ne true (by omega) (by omega)]
      constructor
      · intro k; omega
      · intro k
        have := congrArg rung k
        rw [word_rung _ _ (by omega)] at this
        omega
end Go.Proofs.Ytckdbgejpagkpaa
