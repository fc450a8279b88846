/-
  Numbers with a point: RealWhole walked.
-/
import Derived.Test.YtckdbgejpagkpaaFRealU
namespace Go.Proofs.Ytckdbgejpagkpaa
open Go Go.RowKit
set_option linter.unusedVariables false
set_option linter.unusedSimpArgs false

theorem cmp_anti (a b : Nat) (h : (nanB a || nanB b) = false) : cmpR b a = -cmpR a b := by
  unfold cmpR
  rw [h, Bool.or_comm (nanB b), h]
  simp only [Bool.false_eq_true, if_false]
  by_cases c : rank a < rank b
  · have d : ¬ rank b < rank a := by omega
    simp [c, d]
  · by_cases d : rank b < rank a
    · simp [c, d]
    · simp [c, d]
theorem cmp_nan (a b : Nat) (h : (nanB a || nanB b) = true) : cmpR a b = 2 := by
  unfold cmpR; rw [h]; rfl
theorem picks_plain (a b : Nat) (na : nanB a = false) (nb : nanB b = false) :
    ((pickR a b true = a ∧ pickR a b false = b) ∨ (pickR a b true = b ∧ pickR a b false = a)) ∧ cmpR (pickR a b true) (pickR a b false) ≤ 0 := by
  have hor : (nanB a || nanB b) = false := by rw [na, nb]; rfl
  have hanti := cmp_anti a b hor
  rcases cmp_ways a b na nb with e | e | e
  · by_cases hab : a = b
    · subst hab
      rw [pick_self, pick_self, canon_of na, e]
      simp
    · cases hs : sgn a
      · have h1 : pickR a b true = b := by unfold pickR; rw [na, nb, e, hs]; simp [hab]
        have h2 : pickR a b false = a := by unfold pickR; rw [na, nb, e, hs]; simp [hab]
        rw [h1, h2, hanti, e]; simp
      · have h1 : pickR a b true = a := by unfold pickR; rw [na, nb, e, hs]; simp [hab]
        have h2 : pickR a b false = b := by unfold pickR; rw [na, nb, e, hs]; simp [hab]
        rw [h1, h2, e]; simp
  · have h1 : pickR a b true = a := by unfold pickR; rw [na, nb, e]; rfl
    have h2 : pickR a b false = b := by unfold pickR; rw [na, nb, e]; rfl
    rw [h1, h2, e]; simp
  · have h1 : pickR a b true = b := by unfold pickR; rw [na, nb, e]; rfl
    have h2 : pickR a b false = a := by unfold pickR; rw [na, nb, e]; rfl
    rw [h1, h2, hanti, e]; simp
/-- A whole number's word. -/
theorem of_word (n : Int) (h0 : n ≠ 0) (h : n.natAbs ≤ 2147483648) :
    ∃ d R, ofR n = Ieee.double.word (decide (n < 0)) R ∧ 4607182418800017408 ≤ R ∧ R / 4503599627370496 + d = 1075 ∧ 1 ≤ d ∧ R % 2 ^ d = 0 ∧ mant R / 2 ^ d = n.natAbs ∧ (n.natAbs ≤ 2147483647 → R ≤ 4746794007244308480) ∧ R ≤ 4746794007248502784 := by
  obtain ⟨N, hN⟩ : ∃ N, N = n.natAbs := ⟨_, rfl⟩
  rw [← hN] at h ⊢
  have hN0 : N ≠ 0 := by omega
  have e : ofR n = Ieee.double.nearest (decide (n < 0)) N 0 := by rw [hN]; rfl
  obtain ⟨l, hl⟩ : ∃ l, l = N.log2 := ⟨_, rfl⟩
  have g1 : N < 2 ^ (l + 1) := by rw [hl]; exact Nat.lt_log2_self
  have g2 : 2 ^ l ≤ N := by rw [hl]; exact (Nat.le_log2 hN0).1 (Nat.le_refl _)
  have g3 : l ≤ 31 := by
    have := (Nat.log2_lt hN0 (k := 32)).2 (by omega)
    omega
  obtain ⟨d, hd⟩ : ∃ d, d = 52 - l := ⟨_, rfl⟩
  obtain ⟨L, hL⟩ : ∃ L, L = 2 ^ d := ⟨_, rfl⟩
  have hpL : 0 < L := by rw [hL]; exact Nat.pow_pos (by omega)
  have hB : (4503599627370496 : Nat) = 2 ^ l * L := by rw [hL, ← Nat.pow_add, show l + d = 52 by omega]
  have hB2 : (9007199254740992 : Nat) = 2 ^ (l + 1) * L := by rw [hL, ← Nat.pow_add, show l + 1 + d = 53 by omega]
  obtain ⟨M, hM⟩ : ∃ M, M = N * L := ⟨_, rfl⟩
  have m1 : 4503599627370496 ≤ M := by rw [hB, hM]; exact Nat.mul_le_mul_right _ g2
  have m2 : M < 9007199254740992 := by rw [hB2, hM]; exact Nat.mul_lt_mul_of_pos_right g1 hpL
  obtain ⟨R, hR⟩ : ∃ R, R = (l + 1022) * 4503599627370496 + M := ⟨_, rfl⟩
  have hmR : mant R = M := by unfold mant; rw [if_neg (by omega)]; omega
  refine ⟨d, R, ?_, by omega, by omega, by omega, ?_, ?_, ?_, ?_⟩
  · rw [e, whole_word _ N hN0 (by omega), ← hl, ← hd, ← hL, ← hM, ← hR]
  · rw [← hL, hR, hM, hB, ← Nat.mul_assoc, Nat.add_mod, Nat.mul_mod_left, Nat.mul_mod_left]; rfl
  · rw [← hL, hmR, hM, Nat.mul_div_cancel _ hpL]
  · intro hlt
    by_cases c : l = 30
    · have hL22 : L = 4194304 := by rw [hL, hd, c]
      rw [hL22] at hM
      omega
    · by_cases c2 : l = 31
      · exfalso
        rw [c2] at g2
        have : (2 : Nat) ^ 31 = 2147483648 := rfl
        omega
      · omega
  · by_cases c : l = 31
    · have hL21 : L = 2097152 := by rw [hL, hd, c]
      rw [hL21] at hM
      omega
    · by_cases c2 : l = 30
      · have hL22 : L = 4194304 := by rw [hL, hd, c2]
        rw [hL22] at hM
        have : (2 : Nat) ^ 31 = 2147483648 := rfl
        rw [c2] at g1
        omega
      · omega
theorem int_of (n : Int) (h1 : -2147483648 ≤ n) (h2 : n ≤ 2147483647) : intE (ofR n) = .returned (.tuple #[.int .i32 n, .bool true]) := by
  have fin : ∀ (c : Nat), (Ieee.double.read c).toInt .zero = some n → floatToIntVal .f64 c .i32 = some n := by
    intro c e
    unfold floatToIntVal
    have : (FloatKind.f64.decode c).toInt .zero = some n := e
    rw [this]
    have i1 : IntKind.i32.min = -2147483648 := by decide
    have i2 : IntKind.i32.max = 2147483647 := by decide
    simp only [i1, i2]
    rw [if_pos ⟨h1, h2⟩]
  have hv : intV (ofR n) = some n := by
    unfold intV
    rw [ofR_nanB]
    simp only [Bool.false_eq_true, if_false]
    by_cases h0 : n = 0
    · subst h0; decide +kernel
    · obtain ⟨d, R, e, r1, r2, r3, r4, r5, r6, r7⟩ := of_word n h0 (by omega)
      rw [e, mid_self .zero _ R d r1 r2 r3 r4]
      have hr := rank_word (decide (n < 0)) R (by omega)
      have ht := toInt_mid (decide (n < 0)) R d r1 r2 r3
      rw [r5] at ht
      by_cases hn : n < 0
      · rw [decide_eq_true hn] at hr ht ⊢
        simp only [if_true] at hr ht
        rw [hr, if_pos ⟨by omega, by omega⟩]
        exact fin _ (by rw [ht]; congr 1; omega)
      · rw [decide_eq_false hn] at hr ht ⊢
        simp only [Bool.false_eq_true, if_false] at hr ht
        rw [hr, if_pos ⟨by have := r6 (by omega); omega, by omega⟩]
        exact fin _ (by rw [ht]; congr 1; omega)
  unfold intE; rw [hv]
theorem ofR_lt (n : Int) : ofR n < 18446744073709551616 := write_lt' (.number (decide (n < 0)) n.natAbs 0)
theorem roundD_lt (a : Nat) (ha : a < 18446744073709551616) (k : Int) : roundD a k < 18446744073709551616 := by
  unfold roundD
  split
  · omega
  · split
    · exact ha
    · exact cutR_lt _ _
theorem roundD_twice (a : Nat) (ha : a < 18446744073709551616) (k : Int) (hk : k = 0 ∨ k = 1 ∨ k = 2 ∨ k = 3) : roundD (roundD a k) k = roundD a k := by
  rw [roundD_way _ k hk, roundD_way _ k hk]
  unfold cutC
  cases hn : nanB a
  · simp only [Bool.false_eq_true, if_false]
    rw [cutR_nanB hn]
    simp only [Bool.false_eq_true, if_false]
    exact cut_twice _ a ha hn
  · simp only [if_true]
    rw [show nanB 9221120237041090560 = true by decide]
    simp
theorem cls_ne (a b : Nat) (h : nanB a ≠ nanB b) : clsR a ≠ clsR b := by
  intro e
  have h1 := h4_any a
  have h2 := h4_any b
  rw [e] at h1
  exact h (h1.symm.trans h2)
set_option maxRecDepth 10000 in
theorem whole_core (a b : Nat) (ha : a < 18446744073709551616) (hb : b < 18446744073709551616) (wy n k : Int) (w0 : 0 ≤ wy) (w1 : wy ≤ 255) (hk : wy % 4 = k) (hk1 : 0 ≤ k) (hk2 : k ≤ 3) (r s t : Nat) (hs : s < 18446744073709551616) (ht : t < 18446744073709551616)
    (i1 : ∀ w, Calls Try.prog 21 #[.int .u64 (ofR n)] w fun e w' => e = .returned (.tuple #[.int .i32 n, .bool true]) ∧ Below w.heap.size w w')
    (r1 : ∀ w, Calls Try.prog 12 #[.int .u64 a, .int .i64 k] w fun e w' => e = .returned (.int .u64 r) ∧ Below w.heap.size w w')
    (r2 : ∀ w, Calls Try.prog 12 #[.int .u64 r, .int .i64 k] w fun e w' => e = .returned (.int .u64 r) ∧ Below w.heap.size w w')
    (s1 : pickR a b true = s) (s2 : pickR a b false = t) (x : Bool) (hx : ((clsR a == 4) : Bool) = x) (x2 : Bool) (hx2 : ((clsR b == 4) : Bool) = x2)
    (hn : (x || x2) = true → ((clsR a != clsR b) : Bool) = true ∨ (((clsR a != clsR b) : Bool) = false ∧ ((s : Int) == (t : Int)) = true))
    (o : Int) (ho : cmpR s t = o) (hm : (x || x2) = false → o ≤ 0 ∧ ((((s : Int) == (a : Int)) = true ∧ ((t : Int) == (b : Int)) = true) ∨ (((s : Int) == (a : Int)) = false ∧ ((s : Int) == (b : Int)) = true ∧ ((t : Int) == (a : Int)) = true))) (w : World) :
    Calls Try.prog 7 #[.int .u64 a, .int .u64 b, .int .u8 wy, .int .i32 n] w fun e w' => e = .returned (.bool true) ∧ Below w.heap.size w w' := by
  have HB : Hid (Below w.heap.size w w) := Lib.hid (Below.refl _ _)
  have I1 := Lib.hid i1; have R1 := Lib.hid r1; have R2 := Lib.hid r2; have S1 := Lib.hid s1; have S2 := Lib.hid s2; have O1 := Lib.hid ho
  clear i1 r1 r2 s1 s2 ho
  have mm : wy.tmod 4 = k := by rw [← hk]; exact Int.tmod_eq_emod_of_nonneg w0
  cases x
  · cases x2
    · obtain ⟨h0, h1⟩ := hm rfl
      clear hm hn
      rcases h1 with ⟨h1, h2⟩ | ⟨h1, h2, h3⟩
      all_goals
        go_enter Try.func7, Try.ntmps7
        go_wp2_with (first
      | (go_at_call 28; (with_reducible refine (b_same (of_in n _)).mono ?_); rintro e w' ⟨rfl, hB⟩; replace HB := hidB HB hB; clear hB)
      | (go_at_call 21; (with_reducible refine (I1.out _).mono ?_); rintro e w' ⟨rfl, hB⟩; replace HB := hidB HB hB; clear hB)
      | (go_at_call 12; (with_reducible refine (R1.out _).mono ?_); rintro e w' ⟨rfl, hB⟩; replace HB := hidB HB hB; clear hB)
      | (go_at_call 12; (with_reducible refine (R2.out _).mono ?_); rintro e w' ⟨rfl, hB⟩; replace HB := hidB HB hB; clear hB)
      | (go_at_call 23; (with_reducible refine (min_in a b ha hb _).mono ?_); rintro e w' ⟨rfl, hB⟩; rw [S1.out]; replace HB := hidB HB hB; clear hB)
      | (go_at_call 25; (with_reducible refine (max_in a b ha hb _).mono ?_); rintro e w' ⟨rfl, hB⟩; rw [S2.out]; replace HB := hidB HB hB; clear hB)
      | (go_at_call 10; (with_reducible refine (b_same (classR_in a ha _)).mono ?_); rintro e w' ⟨rfl, hB⟩; replace HB := hidB HB hB; clear hB)
      | (go_at_call 10; (with_reducible refine (b_same (classR_in b hb _)).mono ?_); rintro e w' ⟨rfl, hB⟩; replace HB := hidB HB hB; clear hB)
      | (go_at_call 11; (with_reducible refine (awake_in _).mono ?_); rintro e w' ⟨rfl, hB⟩; replace HB := hidB HB hB; clear hB)
      | (go_at_call 13; (with_reducible refine (b_same (orderR_in s t hs ht _)).mono ?_); rintro e w' ⟨rfl, hB⟩; rw [O1.out]; replace HB := hidB HB hB; clear hB))
        go_ret
        exact ⟨rfl, HB.out⟩
    · have h1 := hn rfl
      clear hm hn
      rcases h1 with h1 | ⟨h1, h2⟩
      all_goals
        go_enter Try.func7, Try.ntmps7
        go_wp2_with (first
      | (go_at_call 28; (with_reducible refine (b_same (of_in n _)).mono ?_); rintro e w' ⟨rfl, hB⟩; replace HB := hidB HB hB; clear hB)
      | (go_at_call 21; (with_reducible refine (I1.out _).mono ?_); rintro e w' ⟨rfl, hB⟩; replace HB := hidB HB hB; clear hB)
      | (go_at_call 12; (with_reducible refine (R1.out _).mono ?_); rintro e w' ⟨rfl, hB⟩; replace HB := hidB HB hB; clear hB)
      | (go_at_call 12; (with_reducible refine (R2.out _).mono ?_); rintro e w' ⟨rfl, hB⟩; replace HB := hidB HB hB; clear hB)
      | (go_at_call 23; (with_reducible refine (min_in a b ha hb _).mono ?_); rintro e w' ⟨rfl, hB⟩; rw [S1.out]; replace HB := hidB HB hB; clear hB)
      | (go_at_call 25; (with_reducible refine (max_in a b ha hb _).mono ?_); rintro e w' ⟨rfl, hB⟩; rw [S2.out]; replace HB := hidB HB hB; clear hB)
      | (go_at_call 10; (with_reducible refine (b_same (classR_in a ha _)).mono ?_); rintro e w' ⟨rfl, hB⟩; replace HB := hidB HB hB; clear hB)
      | (go_at_call 10; (with_reducible refine (b_same (classR_in b hb _)).mono ?_); rintro e w' ⟨rfl, hB⟩; replace HB := hidB HB hB; clear hB)
      | (go_at_call 11; (with_reducible refine (awake_in _).mono ?_); rintro e w' ⟨rfl, hB⟩; replace HB := hidB HB hB; clear hB)
      | (go_at_call 13; (with_reducible refine (b_same (orderR_in s t hs ht _)).mono ?_); rintro e w' ⟨rfl, hB⟩; rw [O1.out]; replace HB := hidB HB hB; clear hB))
        go_ret
        exact ⟨rfl, HB.out⟩
  · have h1 := hn rfl
    clear hm hn
    rcases h1 with h1 | ⟨h1, h2⟩
    all_goals
      go_enter Try.func7, Try.ntmps7
      go_wp2_with (first
      | (go_at_call 28; (with_reducible refine (b_same (of_in n _)).mono ?_); rintro e w' ⟨rfl, hB⟩; replace HB := hidB HB hB; clear hB)
      | (go_at_call 21; (with_reducible refine (I1.out _).mono ?_); rintro e w' ⟨rfl, hB⟩; replace HB := hidB HB hB; clear hB)
      | (go_at_call 12; (with_reducible refine (R1.out _).mono ?_); rintro e w' ⟨rfl, hB⟩; replace HB := hidB HB hB; clear hB)
      | (go_at_call 12; (with_reducible refine (R2.out _).mono ?_); rintro e w' ⟨rfl, hB⟩; replace HB := hidB HB hB; clear hB)
      | (go_at_call 23; (with_reducible refine (min_in a b ha hb _).mono ?_); rintro e w' ⟨rfl, hB⟩; rw [S1.out]; replace HB := hidB HB hB; clear hB)
      | (go_at_call 25; (with_reducible refine (max_in a b ha hb _).mono ?_); rintro e w' ⟨rfl, hB⟩; rw [S2.out]; replace HB := hidB HB hB; clear hB)
      | (go_at_call 10; (with_reducible refine (b_same (classR_in a ha _)).mono ?_); rintro e w' ⟨rfl, hB⟩; replace HB := hidB HB hB; clear hB)
      | (go_at_call 10; (with_reducible refine (b_same (classR_in b hb _)).mono ?_); rintro e w' ⟨rfl, hB⟩; replace HB := hidB HB hB; clear hB)
      | (go_at_call 11; (with_reducible refine (awake_in _).mono ?_); rintro e w' ⟨rfl, hB⟩; replace HB := hidB HB hB; clear hB)
      | (go_at_call 13; (with_reducible refine (b_same (orderR_in s t hs ht _)).mono ?_); rintro e w' ⟨rfl, hB⟩; rw [O1.out]; replace HB := hidB HB hB; clear hB))
      go_ret
      exact ⟨rfl, HB.out⟩
theorem pickR_lt (a b : Nat) (l : Bool) (ha : a < 18446744073709551616) (hb : b < 18446744073709551616) : pickR a b l < 18446744073709551616 := by
  unfold pickR
  repeat' split
  all_goals first | assumption | omega
theorem whole_row (a b wy n : Int) (wa : (Lit.int .u64 a).wf = true) (wb : (Lit.int .u64 b).wf = true) (ww : (Lit.int .u8 wy).wf = true) (wn : (Lit.int .i32 n).wf = true) (w : World) :
    Calls Try.prog 7 #[.int .u64 a, .int .u64 b, .int .u8 wy, .int .i32 n] w fun e w' => e = .returned (.bool true) ∧ Below w.heap.size w w' := by
  obtain ⟨a, rfl, ha⟩ := nat_of_u64 wa
  obtain ⟨b, rfl, hb⟩ := nat_of_u64 wb
  rw [wf_u8] at ww
  rw [wf_i32] at wn
  obtain ⟨k, hk⟩ : ∃ k, k = wy % 4 := ⟨_, rfl⟩
  have hk4 : k = 0 ∨ k = 1 ∨ k = 2 ∨ k = 3 := by omega
  have i1 := fun w => b_drew (int_in (ofR n) (ofR_lt n) w)
  rw [int_of n wn.1 wn.2] at i1
  have r1 := fun w => b_drew (round_in a k w)
  have r2 := fun w => b_drew (round_in (roundD a k) k w)
  rw [roundD_twice a ha k hk4] at r2
  refine whole_core a b ha hb wy n k ww.1 ww.2 hk.symm (by omega) (by omega) (roundD a k) (pickR a b true) (pickR a b false) (pickR_lt _ _ _ ha hb) (pickR_lt _ _ _ ha hb) i1 r1 r2 rfl rfl _ (h4_any a) _ (h4_any b) ?_ _ rfl ?_ w
  · intro h
    by_cases e : nanB a = nanB b
    · have na : nanB a = true := by rw [← e, Bool.or_self] at h; exact h
      have nb : nanB b = true := e ▸ na
      right
      refine ⟨?_, ?_⟩
      · have h1 : clsR a = 4 := by have := h4_any a; rw [na] at this; exact beq_iff_eq.1 this
        have h2 : clsR b = 4 := by have := h4_any b; rw [nb] at this; exact beq_iff_eq.1 this
        rw [h1, h2]; rfl
      · have : ∀ l, pickR a b l = 9221120237041090560 := fun l => by unfold pickR; rw [na, nb]; rfl
        rw [this, this]; simp
    · left
      rw [bne_iff_ne]
      exact cls_ne a b e
  · intro h
    have na : nanB a = false := by cases k : nanB a <;> simp_all
    have nb : nanB b = false := by cases k : nanB b <;> simp_all
    obtain ⟨h1, h2⟩ := picks_plain a b na nb
    refine ⟨h2, ?_⟩
    rcases h1 with ⟨e1, e2⟩ | ⟨e1, e2⟩
    · left; rw [e1, e2]; simp
    · by_cases hab : a = b
      · left; rw [e1, e2, hab]; simp
      · right; rw [e1, e2]; simp; omega
end Go.Proofs.Ytckdbgejpagkpaa
