/-
  Numbers with a point: the document's Round is the model's own way to a whole number.
-/
import Derived.Test.YtckdbgejpagkpaaFRealG
namespace Go.Proofs.Ytckdbgejpagkpaa
open Go Go.RowKit
set_option linter.unusedVariables false
set_option linter.unusedSimpArgs false

/-- A number without its part behind the point, by a way. -/
def cutR (t : Ieee.Toward) (a : Nat) : Nat := Ieee.double.write ((Ieee.double.read a).integral t)
def roundD (a : Nat) (way : Int) : Nat := if nanB a then 9221120237041090560 else if way < 0 ∨ 3 < way then a else cutR (wayOf way) a
theorem or_neg (n : Nat) (h : n < 9223372036854775808) : bits BinOp.or IntKind.u64 9223372036854775808 (n : Int) = ((Ieee.double.word true n : Nat) : Int) := by
  have e := u64_or_nat 9223372036854775808 n (by omega) (by omega)
  rw [show ((9223372036854775808 : Nat) : Int) = 9223372036854775808 from rfl] at e
  rw [e, nat_join 63 9223372036854775808 n (by decide) (by simpa using h)]
  rfl
theorem or_pos (n : Nat) (h : n < 9223372036854775808) : bits BinOp.or IntKind.u64 0 (n : Int) = ((Ieee.double.word false n : Nat) : Int) := by
  have e := u64_or_nat 0 n (by omega) (by omega)
  rw [show ((0 : Nat) : Int) = 0 from rfl] at e
  rw [e, Nat.zero_or]
  rfl
/-- What the middle's walks give. -/
theorem mid_facts (r d : Nat) (h1 : 4607182418800017408 ≤ r) (hd : r / 4503599627370496 + d = 1075) (hd1 : 1 ≤ d) :
    ∃ L q n m g : Nat, L = 2 ^ d ∧ 2 ≤ L ∧ L ≤ 4503599627370496 ∧ q = r % L ∧ q < L ∧ q ≤ r ∧ r = q + n ∧ n + L ≤ 9223372036854775807 ∧ n / L = m ∧ m ≤ n ∧ L = 2 * g
      ∧ mant r % L = q ∧ (mant r / L % 2 = 1 ↔ (d = 52 ∨ m % 2 = 1)) := by
  have hd52 : d ≤ 52 := by omega
  obtain ⟨k, hk⟩ : ∃ k, k = 52 - d := ⟨_, rfl⟩
  obtain ⟨L, hL⟩ : ∃ L, L = 2 ^ d := ⟨_, rfl⟩
  have hB : (4503599627370496 : Nat) = 2 ^ k * L := by rw [hL, ← Nat.pow_add, show k + d = 52 by omega]
  have hp : 0 < L := by rw [hL]; exact Nat.pow_pos (by omega)
  have hL2 : L = 2 * (2 ^ (d - 1)) := by rw [hL, Nat.mul_comm, ← Nat.pow_succ]; congr 1; omega
  have hg1 : 0 < 2 ^ (d - 1) := Nat.pow_pos (by omega)
  have hLB : L ≤ 4503599627370496 := by
    have : 2 ^ d ≤ 2 ^ 52 := Nat.pow_le_pow_right (by omega) hd52
    rw [hL]; simpa using this
  have hm : mant r = 4503599627370496 + r % 4503599627370496 := by unfold mant; rw [if_neg (by omega)]
  have hr0 := Nat.div_add_mod r 4503599627370496
  obtain ⟨Q, hQ⟩ : ∃ Q, Q = r / 4503599627370496 := ⟨_, rfl⟩
  obtain ⟨f, hf⟩ : ∃ f, f = r % 4503599627370496 := ⟨_, rfl⟩
  have hfl : f < 4503599627370496 := by rw [hf]; exact Nat.mod_lt _ (by omega)
  rw [← hf] at hm
  rw [← hf, ← hQ] at hr0
  have hrq : r = L * (2 ^ k * Q) + f := by
    rw [← Nat.mul_assoc, Nat.mul_comm L (2 ^ k), ← hB]; exact hr0.symm
  have hmq : mant r = L * 2 ^ k + f := by rw [hm, Nat.mul_comm L, ← hB]
  have e1 : r % L = f % L := by rw [hrq, Nat.mul_add_mod]
  have e2 : mant r % L = f % L := by rw [hmq, Nat.mul_add_mod]
  have e3 : r / L = 2 ^ k * Q + f / L := by rw [hrq, Nat.mul_add_div hp]
  have e4 : mant r / L = 2 ^ k + f / L := by rw [hmq, Nat.mul_add_div hp]
  have hrl : r % L ≤ r := Nat.mod_le _ _
  have hdm := Nat.div_add_mod r L
  have hn : (r - r % L) / L = r / L := by
    rw [show r - r % L = L * (r / L) by omega, Nat.mul_div_cancel_left _ hp]
  have hml : r / L ≤ r - r % L := by
    rw [show r - r % L = L * (r / L) by omega]
    exact Nat.le_mul_of_pos_left _ hp
  refine ⟨L, r % L, r - r % L, r / L, 2 ^ (d - 1), hL, by omega, hLB, rfl, Nat.mod_lt _ hp, hrl, by omega, ?_, hn, hml, hL2, by rw [e1, e2], ?_⟩
  · have : r < 4841369599423283200 := by omega
    omega
  · rw [e3, e4]
    by_cases c : d = 52
    · have k0 : k = 0 := by omega
      have hL52 : L = 4503599627370496 := by rw [hL, c]
      have f0 : f / L = 0 := Nat.div_eq_of_lt (by rw [hL52]; exact hfl)
      rw [k0, f0]
      simp [c]
    · obtain ⟨j, hj⟩ : ∃ j, k = j + 1 := ⟨k - 1, by omega⟩
      have p1 : 2 ^ k = 2 * 2 ^ j := by rw [hj, Nat.pow_succ, Nat.mul_comm]
      rw [p1, Nat.mul_assoc]
      generalize 2 ^ j * Q = u
      generalize 2 ^ j = v
      generalize f / L = y
      constructor
      · intro e; right; omega
      · intro e; rcases e with e | e
        · exact absurd e c
        · omega
/-- That it is cut upwards, by the walks' own tests. -/
theorem more_is (k : Int) (neg : Bool) (L q g t : Nat) (hk : k = 0 ∨ k = 1 ∨ k = 2 ∨ k = 3) (hg : L = 2 * g) :
    moreB (wayOf k) neg L q t = (if k = 0 then false else if k = 1 then neg && decide (0 < q) else if k = 2 then !neg && decide (0 < q) else decide (g < q) || (decide (q = g) && decide (t % 2 = 1))) := by
  have e0 : (q != 0) = decide (0 < q) := by rw [Bool.eq_iff_iff]; simp; omega
  rcases hk with rfl | rfl | rfl | rfl
  · rfl
  · show (neg && q != 0) = _
    rw [e0]; rfl
  · show (!neg && q != 0) = _
    rw [e0]; rfl
  · show (decide (L < 2 * q) || (L == 2 * q && t % 2 == 1)) = (decide (g < q) || (decide (q = g) && decide (t % 2 = 1)))
    rw [show decide (L < 2 * q) = decide (g < q) by rw [decide_eq_decide]; omega, show (L == 2 * q) = decide (q = g) by rw [Bool.eq_iff_iff]; simp; omega, show (t % 2 == 1) = decide (t % 2 = 1) by rw [Bool.eq_iff_iff]; simp]
def midR (t : Ieee.Toward) (neg : Bool) (r d : Nat) : Nat := Ieee.double.word neg (r - r % 2 ^ d + (moreB t neg (2 ^ d) (mant r % 2 ^ d) (mant r / 2 ^ d)).toNat * 2 ^ d)
theorem mid_pos (a x : Nat) (k : Int) (hk : k = 0 ∨ k = 1 ∨ k = 2 ∨ k = 3) (h : a < 18446744073709551616) (h4a : (clsR a == 4) = false) (h3a : (clsR a == 3) = false) (hx : (a : Int) / 4503599627370496 % 2048 = x) (hx1 : 1023 ≤ x) (hx2 : x ≤ 1074)
    (hs : (a : Int) / 9223372036854775808 * 9223372036854775808 = 0) (h1 : 4607182418800017408 ≤ a) (d : Nat) (hd : a / 4503599627370496 + d = 1075) (hxz : a / 4503599627370496 = x) (hd1 : 1 ≤ d) (w : World) :
    Calls Try.prog 27 #[.int .u64 a, .int .i64 k] w fun e w' => e = .returned (.int .u64 (midR (wayOf k) false a d : Nat)) ∧ w = w' := by
  obtain ⟨L, q, n, m, g, hL, hL1, hL2, hq, hqL, hqz, hn, hnL, hm, hmn, hg, hmq, hodd⟩ := mid_facts a d h1 hd hd1
  have HR : midR (wayOf k) false a d = Ieee.double.word false (n + (moreB (wayOf k) false L q (mant a / L)).toNat * L) := by
    unfold midR
    rw [← hL, hmq, ← hq, show a - q = n by omega]
  have hmo := more_is k false L q g (mant a / L) hk hg
  have g1 : 52 - ((x : Int) - 1023) = d := by omega
  have g2 : d ≤ 52 := by omega
  have g3 : (2 : Int) ^ d = L := by rw [hL]; simp
  have g4 : (L : Int) ≤ 4503599627370496 := by omega
  have g5 : (a : Int) % L = q := by rw [hq]; simp
  have g6 : (a : Int) - q = n := by omega
  have g7 : (n : Int) + L ≤ 9223372036854775807 := by omega
  have g8 : (n : Int) / L = m := by rw [← hm]; simp
  have g9 : (m : Int) ≤ 9223372036854775807 := by omega
  have g10 : (L : Int) / 2 = g := by omega
  have r0 := or_pos n (by omega)
  have r1 := or_pos (n + L) (by omega)
  rw [Int.natCast_add] at r1
  rcases hk with rfl | rfl | rfl | rfl
  · have R : midR (wayOf 0) false a d = Ieee.double.word false (n) := by
      rw [HR, show moreB (wayOf 0) false L q (mant a / L) = false from hmo.trans (by simp <;> omega)]; simp
    rw [← R] at r0
    exact mid_pos0 a x h h4a h3a hx hx1 hx2 hs d L g1 hd1 g2 g3 hL1 g4 q n m g g5 hqL hqz g6 g7 g8 g9 g10  _ r0 w
  · have R : midR (wayOf 1) false a d = Ieee.double.word false (n) := by
      rw [HR, show moreB (wayOf 1) false L q (mant a / L) = false from hmo.trans (by simp <;> omega)]; simp
    rw [← R] at r0
    exact mid_pos1 a x h h4a h3a hx hx1 hx2 hs d L g1 hd1 g2 g3 hL1 g4 q n m g g5 hqL hqz g6 g7 g8 g9 g10  _ r0 w
  · by_cases c : 0 < q
    · have R : midR (wayOf 2) false a d = Ieee.double.word false (n + L) := by
        rw [HR, show moreB (wayOf 2) false L q (mant a / L) = true from hmo.trans (by simp <;> omega)]; simp
      rw [← R] at r1
      exact mid_pos2y a x h h4a h3a hx hx1 hx2 hs d L g1 hd1 g2 g3 hL1 g4 q n m g g5 hqL hqz g6 g7 g8 g9 g10 c _ r1 w
    · have R : midR (wayOf 2) false a d = Ieee.double.word false (n) := by
        rw [HR, show moreB (wayOf 2) false L q (mant a / L) = false from hmo.trans (by simp <;> omega)]; simp
      rw [← R] at r0
      exact mid_pos2n a x h h4a h3a hx hx1 hx2 hs d L g1 hd1 g2 g3 hL1 g4 q n m g g5 hqL hqz g6 g7 g8 g9 g10 (decide_eq_false c) _ r0 w
  · by_cases c : g < q
    · have R : midR (wayOf 3) false a d = Ieee.double.word false (n + L) := by
        rw [HR, show moreB (wayOf 3) false L q (mant a / L) = true from hmo.trans (by simp <;> omega)]; simp
      rw [← R] at r1
      exact mid_pos3a a x h h4a h3a hx hx1 hx2 hs d L g1 hd1 g2 g3 hL1 g4 q n m g g5 hqL hqz g6 g7 g8 g9 g10 (by omega) c _ r1 w
    · by_cases e : q = g
      · by_cases o : d = 52
        · have R : midR (wayOf 3) false a d = Ieee.double.word false (n + L) := by
            rw [HR, show moreB (wayOf 3) false L q (mant a / L) = true from hmo.trans (by simp <;> omega)]; simp
          rw [← R] at r1
          exact mid_pos3c a x h h4a h3a hx hx1 hx2 hs d L g1 hd1 g2 g3 hL1 g4 q n m g g5 hqL hqz g6 g7 g8 g9 g10 (by omega) (decide_eq_false c) (by simp [e]) (by simp; omega) _ r1 w
        · by_cases o2 : m % 2 = 1
          · have R : midR (wayOf 3) false a d = Ieee.double.word false (n + L) := by
              rw [HR, show moreB (wayOf 3) false L q (mant a / L) = true from hmo.trans (by simp <;> omega)]; simp
            rw [← R] at r1
            exact mid_pos3d a x h h4a h3a hx hx1 hx2 hs d L g1 hd1 g2 g3 hL1 g4 q n m g g5 hqL hqz g6 g7 g8 g9 g10 (by omega) (decide_eq_false c) (by simp [e]) (by simp; omega) (by simp; omega) _ r1 w
          · have R : midR (wayOf 3) false a d = Ieee.double.word false (n) := by
              rw [HR, show moreB (wayOf 3) false L q (mant a / L) = false from hmo.trans (by simp <;> omega)]; simp
            rw [← R] at r0
            exact mid_pos3e a x h h4a h3a hx hx1 hx2 hs d L g1 hd1 g2 g3 hL1 g4 q n m g g5 hqL hqz g6 g7 g8 g9 g10 (decide_eq_false c) (by simp [e]) (by simp; omega) (by simp; omega) _ r0 w
      · have R : midR (wayOf 3) false a d = Ieee.double.word false (n) := by
          rw [HR, show moreB (wayOf 3) false L q (mant a / L) = false from hmo.trans (by simp <;> omega)]; simp
        rw [← R] at r0
        exact mid_pos3b a x h h4a h3a hx hx1 hx2 hs d L g1 hd1 g2 g3 hL1 g4 q n m g g5 hqL hqz g6 g7 g8 g9 g10 (decide_eq_false c) (by simp; omega) _ r0 w
theorem mid_neg (a x : Nat) (k : Int) (hk : k = 0 ∨ k = 1 ∨ k = 2 ∨ k = 3) (h : a < 18446744073709551616) (h4a : (clsR a == 4) = false) (h3a : (clsR a == 3) = false) (hx : (a : Int) / 4503599627370496 % 2048 = x) (hx1 : 1023 ≤ x) (hx2 : x ≤ 1074)
    (hs : (a : Int) / 9223372036854775808 * 9223372036854775808 = 9223372036854775808) (z : Nat) (hz : (a : Int) - 9223372036854775808 = z) (hz0 : (z : Int) ≤ 9223372036854775807) (h1 : 4607182418800017408 ≤ z) (d : Nat) (hd : z / 4503599627370496 + d = 1075) (hxz : z / 4503599627370496 = x) (hd1 : 1 ≤ d) (w : World) :
    Calls Try.prog 27 #[.int .u64 a, .int .i64 k] w fun e w' => e = .returned (.int .u64 (midR (wayOf k) true z d : Nat)) ∧ w = w' := by
  obtain ⟨L, q, n, m, g, hL, hL1, hL2, hq, hqL, hqz, hn, hnL, hm, hmn, hg, hmq, hodd⟩ := mid_facts z d h1 hd hd1
  have HR : midR (wayOf k) true z d = Ieee.double.word true (n + (moreB (wayOf k) true L q (mant z / L)).toNat * L) := by
    unfold midR
    rw [← hL, hmq, ← hq, show z - q = n by omega]
  have hmo := more_is k true L q g (mant z / L) hk hg
  have g1 : 52 - ((x : Int) - 1023) = d := by omega
  have g2 : d ≤ 52 := by omega
  have g3 : (2 : Int) ^ d = L := by rw [hL]; simp
  have g4 : (L : Int) ≤ 4503599627370496 := by omega
  have g5 : (z : Int) % L = q := by rw [hq]; simp
  have g6 : (z : Int) - q = n := by omega
  have g7 : (n : Int) + L ≤ 9223372036854775807 := by omega
  have g8 : (n : Int) / L = m := by rw [← hm]; simp
  have g9 : (m : Int) ≤ 9223372036854775807 := by omega
  have g10 : (L : Int) / 2 = g := by omega
  have r0 := or_neg n (by omega)
  have r1 := or_neg (n + L) (by omega)
  rw [Int.natCast_add] at r1
  rcases hk with rfl | rfl | rfl | rfl
  · have R : midR (wayOf 0) true z d = Ieee.double.word true (n) := by
      rw [HR, show moreB (wayOf 0) true L q (mant z / L) = false from hmo.trans (by simp <;> omega)]; simp
    rw [← R] at r0
    exact mid_neg0 a x h h4a h3a hx hx1 hx2 hs z hz hz0 d L g1 hd1 g2 g3 hL1 g4 q n m g g5 hqL hqz g6 g7 g8 g9 g10  _ r0 w
  · by_cases c : 0 < q
    · have R : midR (wayOf 1) true z d = Ieee.double.word true (n + L) := by
        rw [HR, show moreB (wayOf 1) true L q (mant z / L) = true from hmo.trans (by simp <;> omega)]; simp
      rw [← R] at r1
      exact mid_neg1y a x h h4a h3a hx hx1 hx2 hs z hz hz0 d L g1 hd1 g2 g3 hL1 g4 q n m g g5 hqL hqz g6 g7 g8 g9 g10 c _ r1 w
    · have R : midR (wayOf 1) true z d = Ieee.double.word true (n) := by
        rw [HR, show moreB (wayOf 1) true L q (mant z / L) = false from hmo.trans (by simp <;> omega)]; simp
      rw [← R] at r0
      exact mid_neg1n a x h h4a h3a hx hx1 hx2 hs z hz hz0 d L g1 hd1 g2 g3 hL1 g4 q n m g g5 hqL hqz g6 g7 g8 g9 g10 (decide_eq_false c) _ r0 w
  · have R : midR (wayOf 2) true z d = Ieee.double.word true (n) := by
      rw [HR, show moreB (wayOf 2) true L q (mant z / L) = false from hmo.trans (by simp <;> omega)]; simp
    rw [← R] at r0
    exact mid_neg2 a x h h4a h3a hx hx1 hx2 hs z hz hz0 d L g1 hd1 g2 g3 hL1 g4 q n m g g5 hqL hqz g6 g7 g8 g9 g10  _ r0 w
  · by_cases c : g < q
    · have R : midR (wayOf 3) true z d = Ieee.double.word true (n + L) := by
        rw [HR, show moreB (wayOf 3) true L q (mant z / L) = true from hmo.trans (by simp <;> omega)]; simp
      rw [← R] at r1
      exact mid_neg3a a x h h4a h3a hx hx1 hx2 hs z hz hz0 d L g1 hd1 g2 g3 hL1 g4 q n m g g5 hqL hqz g6 g7 g8 g9 g10 (by omega) c _ r1 w
    · by_cases e : q = g
      · by_cases o : d = 52
        · have R : midR (wayOf 3) true z d = Ieee.double.word true (n + L) := by
            rw [HR, show moreB (wayOf 3) true L q (mant z / L) = true from hmo.trans (by simp <;> omega)]; simp
          rw [← R] at r1
          exact mid_neg3c a x h h4a h3a hx hx1 hx2 hs z hz hz0 d L g1 hd1 g2 g3 hL1 g4 q n m g g5 hqL hqz g6 g7 g8 g9 g10 (by omega) (decide_eq_false c) (by simp [e]) (by simp; omega) _ r1 w
        · by_cases o2 : m % 2 = 1
          · have R : midR (wayOf 3) true z d = Ieee.double.word true (n + L) := by
              rw [HR, show moreB (wayOf 3) true L q (mant z / L) = true from hmo.trans (by simp <;> omega)]; simp
            rw [← R] at r1
            exact mid_neg3d a x h h4a h3a hx hx1 hx2 hs z hz hz0 d L g1 hd1 g2 g3 hL1 g4 q n m g g5 hqL hqz g6 g7 g8 g9 g10 (by omega) (decide_eq_false c) (by simp [e]) (by simp; omega) (by simp; omega) _ r1 w
          · have R : midR (wayOf 3) true z d = Ieee.double.word true (n) := by
              rw [HR, show moreB (wayOf 3) true L q (mant z / L) = false from hmo.trans (by simp <;> omega)]; simp
            rw [← R] at r0
            exact mid_neg3e a x h h4a h3a hx hx1 hx2 hs z hz hz0 d L g1 hd1 g2 g3 hL1 g4 q n m g g5 hqL hqz g6 g7 g8 g9 g10 (decide_eq_false c) (by simp [e]) (by simp; omega) (by simp; omega) _ r0 w
      · have R : midR (wayOf 3) true z d = Ieee.double.word true (n) := by
          rw [HR, show moreB (wayOf 3) true L q (mant z / L) = false from hmo.trans (by simp <;> omega)]; simp
        rw [← R] at r0
        exact mid_neg3b a x h h4a h3a hx hx1 hx2 hs z hz hz0 d L g1 hd1 g2 g3 hL1 g4 q n m g g5 hqL hqz g6 g7 g8 g9 g10 (decide_eq_false c) (by simp; omega) _ r0 w

theorem roundR_in (a : Nat) (way : Int) (h : a < 18446744073709551616) (w : World) :
    Calls Try.prog 27 #[.int .u64 a, .int .i64 way] w fun e w' => e = .returned (.int .u64 (roundD a way)) ∧ w = w' := by
  cases na : nanB a
  · have hc : canon a = a := by unfold canon; rw [na]; rfl
    by_cases hw : way < 0 ∨ 3 < way
    · have e : roundD a way = canon a := by unfold roundD; rw [na, if_pos hw, hc]; rfl
      rw [e]
      exact roundR_out a way h (.inr (.inr hw)) w
    · have hk : way = 0 ∨ way = 1 ∨ way = 2 ∨ way = 3 := by omega
      have e : roundD a way = cutR (wayOf way) a := by unfold roundD; rw [na, if_neg hw]; rfl
      rw [e]
      have hle := of_decide_eq_false na
      cases ia : infB a
      · have hni := of_decide_eq_false ia
        have h4a := (h4_any a).trans na
        have h3a := (h3_any a).trans (by rw [ia, Bool.and_false])
        have hxr : (a : Int) / 4503599627370496 % 2048 = (rung a / 4503599627370496 : Nat) := by
          unfold rung; omega
        by_cases hbig : 4841369599423283200 ≤ rung a
        · rw [cutR, round_big (wayOf way) h hbig (by omega)]
          exact roundR_big a (rung a / 4503599627370496) way h h4a h3a (by omega) (by omega) hxr (by omega) (by omega) w
        · cases sa : sgn a
          · have hra : rung a = a := by
              unfold sgn at sa; unfold rung
              have := beq_eq_false_iff_ne.1 sa
              omega
            have hs : (a : Int) / 9223372036854775808 * 9223372036854775808 = 0 := by have := rung_lt a; omega
            by_cases hsm : rung a < 4607182418800017408
            · have er : cutR (wayOf way) a = smallR way false a := by rw [cutR, round_small _ hsm, sa, hra]; rfl
              rw [er]
              rcases hk with rfl | rfl | rfl | rfl
              · exact small_pos0 a _ h h4a h3a hxr (by omega) hs w
              · exact small_pos1 a _ h h4a h3a hxr (by omega) hs w
              · exact small_pos2 a _ h h4a h3a hxr (by omega) hs w
              · exact small_pos3 a _ h h4a h3a hxr (by omega) hs w
            · obtain ⟨d, hd⟩ : ∃ d, d = 1075 - rung a / 4503599627370496 := ⟨_, rfl⟩
              have er : cutR (wayOf way) a = midR (wayOf way) false a d := by
                rw [cutR, round_mid (wayOf way) (d := d) (by omega) (by omega) (by omega), sa, hra]; rfl
              rw [er]
              exact mid_pos a _ way hk h h4a h3a hxr (by omega) (by omega) hs (by omega) d (by omega) (by rw [hra]) (by omega) w
          · have hra : a = 9223372036854775808 + rung a := by
              unfold sgn at sa; unfold rung
              have := beq_iff_eq.1 sa
              omega
            have hl := rung_lt a
            have hs : (a : Int) / 9223372036854775808 * 9223372036854775808 = 9223372036854775808 := by omega
            have hz : (a : Int) - 9223372036854775808 = (rung a : Nat) := by omega
            by_cases hsm : rung a < 4607182418800017408
            · have er : cutR (wayOf way) a = smallR way true (rung a) := by rw [cutR, round_small _ hsm, sa]; rfl
              rw [er]
              rcases hk with rfl | rfl | rfl | rfl
              · exact small_neg0 a _ h h4a h3a hxr (by omega) hs _ hz (by omega) w
              · exact small_neg1 a _ h h4a h3a hxr (by omega) hs _ hz (by omega) w
              · exact small_neg2 a _ h h4a h3a hxr (by omega) hs _ hz (by omega) w
              · exact small_neg3 a _ h h4a h3a hxr (by omega) hs _ hz (by omega) w
            · obtain ⟨d, hd⟩ : ∃ d, d = 1075 - rung a / 4503599627370496 := ⟨_, rfl⟩
              have er : cutR (wayOf way) a = midR (wayOf way) true (rung a) d := by
                rw [cutR, round_mid (wayOf way) (d := d) (by omega) (by omega) (by omega), sa]; rfl
              rw [er]
              exact mid_neg a _ way hk h h4a h3a hxr (by omega) (by omega) hs _ hz (by omega) (by omega) d (by omega) rfl (by omega) w
      · have er : cutR (wayOf way) a = canon a := by
          have hr := of_decide_eq_true ia
          have hi : Ieee.double.infRung = 9218868437227405312 := by decide
          rw [hc, cutR, read_inf hr]
          show Ieee.double.word (sgn a) Ieee.double.infRung = a
          rw [hi, ← hr, word_is h]
        rw [er]
        exact roundR_out a way h (.inr (.inl ia)) w
  · have e : roundD a way = canon a := by unfold roundD canon; rw [na]; rfl
    rw [e]
    exact roundR_out a way h (.inl na) w
end Go.Proofs.Ytckdbgejpagkpaa
