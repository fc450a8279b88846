/-
  Numbers of 64 bits with a point, in plain Lean: a number's rank by its bits; two compare as their ranks do; what is read of a word is written as that word; whole numbers as words; a number cut to a whole one.
-/
import Derived.Laws.FloatBits
import Derived.Test.YtckdbgejpagkpaaRows
namespace Go.Proofs.Ytckdbgejpagkpaa
open Ieee
/-- The bits without the sign; the sign. -/
def rung (a : Nat) : Nat := a % 9223372036854775808
def sgn (a : Nat) : Bool := a / 9223372036854775808 % 2 == 1
def rank (a : Nat) : Int := if sgn a then -(rung a : Int) else rung a
/-- A number's size, in units of the least one. -/
def unitsOf (r : Nat) : Nat := if r < 4503599627370496 then r else (4503599627370496 + r % 4503599627370496) * 2 ^ (r / 4503599627370496 - 1)
def mant (r : Nat) : Nat := if r < 4503599627370496 then r else 4503599627370496 + r % 4503599627370496
def plc (r : Nat) : Nat := if r < 4503599627370496 then 0 else r / 4503599627370496 - 1
theorem units_is (r : Nat) : unitsOf r = mant r * 2 ^ plc r := by
  unfold unitsOf mant plc; split <;> simp
theorem units_succ (r : Nat) : unitsOf r < unitsOf (r + 1) := by
  unfold unitsOf
  have hp : ∀ k : Nat, 0 < 2 ^ k := fun k => Nat.pow_pos (by omega)
  by_cases h : r < 4503599627370496
  · rw [if_pos h]
    by_cases h2 : r + 1 < 4503599627370496
    · rw [if_pos h2]; omega
    · rw [if_neg h2]
      have e : r + 1 = 4503599627370496 := by omega
      rw [e]; simp; omega
  · rw [if_neg h, if_neg (by omega)]
    by_cases e : (r + 1) % 4503599627370496 = 0
    · have hq : (r + 1) / 4503599627370496 - 1 = (r / 4503599627370496 - 1) + 1 := by omega
      have hr : r % 4503599627370496 = 4503599627370495 := by omega
      rw [e, hq, hr, Nat.pow_succ]
      have := hp (r / 4503599627370496 - 1)
      omega
    · have hq : (r + 1) / 4503599627370496 = r / 4503599627370496 := by omega
      have hr : (r + 1) % 4503599627370496 = r % 4503599627370496 + 1 := by omega
      rw [hq, hr]
      exact Nat.mul_lt_mul_of_pos_right (by omega) (hp _)
theorem units_lt {r s : Nat} (h : r < s) : unitsOf r < unitsOf s := by
  induction s with
  | zero => omega
  | succ s ih =>
    by_cases e : r = s
    · subst e; exact units_succ r
    · exact Nat.lt_trans (ih (by omega)) (units_succ s)
theorem units_lt_iff {r s : Nat} : unitsOf r < unitsOf s ↔ r < s := by
  constructor
  · intro h
    by_cases c : r < s
    · exact c
    · exfalso
      by_cases e : r = s
      · subst e; omega
      · have := units_lt (show s < r by omega); omega
  · exact units_lt
theorem units_zero : unitsOf 0 = 0 := by simp [unitsOf]
theorem read_number {a : Nat} (h : rung a < 9218868437227405312) : double.read a = .number (sgn a) (mant (rung a)) (double.leastPlace + (plc (rung a) : Nat)) := by
  have hb : double.binade = 4503599627370496 := by decide
  have hi : double.infRung = 9218868437227405312 := by decide
  have hs : double.signWeight = 9223372036854775808 := by decide
  unfold Format.read
  simp only [hb, hi, hs]
  unfold rung at h
  unfold sgn rung mant plc
  split
  · simp
  · rfl
theorem read_inf {a : Nat} (h : rung a = 9218868437227405312) : double.read a = .infinity (sgn a) := by
  have hb : double.binade = 4503599627370496 := by decide
  have hi : double.infRung = 9218868437227405312 := by decide
  have hs : double.signWeight = 9223372036854775808 := by decide
  unfold Format.read
  simp only [hb, hi, hs]
  unfold rung at h
  unfold sgn
  rw [if_neg (by omega), if_neg (by omega), if_pos h]
theorem read_nan {a : Nat} (h : 9218868437227405312 < rung a) : (double.read a).isNaN = true := by
  have hb : double.binade = 4503599627370496 := by decide
  have hi : double.infRung = 9218868437227405312 := by decide
  have hs : double.signWeight = 9223372036854775808 := by decide
  unfold Format.read
  simp only [hb, hi, hs]
  unfold rung at h
  rw [if_neg (by omega), if_neg (by omega), if_neg (by omega)]
  rfl

def SU (a : Nat) : Int := if sgn a then -(unitsOf (rung a) : Int) else unitsOf (rung a)
theorem units_zero_iff {r : Nat} : unitsOf r = 0 ↔ r = 0 := by
  constructor
  · intro h
    by_cases c : r = 0
    · exact c
    · have := units_lt (show 0 < r by omega)
      rw [units_zero] at this; omega
  · intro h; rw [h, units_zero]
theorem su_lt {a b : Nat} : SU a < SU b ↔ rank a < rank b := by
  have h1 := units_lt_iff (r := rung a) (s := rung b)
  have h2 := units_lt_iff (r := rung b) (s := rung a)
  have h3 := units_zero_iff (r := rung a)
  have h4 := units_zero_iff (r := rung b)
  unfold SU rank
  generalize unitsOf (rung a) = x at *
  generalize unitsOf (rung b) = y at *
  generalize rung a = r at *
  generalize rung b = q at *
  cases sgn a <;> cases sgn b <;> simp <;> omega
theorem cmp_of {x y u v : Int} (h1 : x < y ↔ u < v) (h2 : y < x ↔ v < u) : compare x y = compare u v := by
  rw [show compare x y = (if x < y then .lt else if x = y then .eq else .gt) from rfl, show compare u v = (if u < v then .lt else if u = v then .eq else .gt) from rfl]
  by_cases c1 : x < y
  · rw [if_pos c1, if_pos (h1.1 c1)]
  · have d1 : ¬ u < v := fun e => c1 (h1.2 e)
    rw [if_neg c1, if_neg d1]
    by_cases c2 : x = y
    · have d2 : u = v := by
        have n1 : ¬ y < x := by omega
        have n2 : ¬ v < u := fun e => n1 (h2.2 e)
        omega
      rw [if_pos c2, if_pos d2]
    · have d2 : ¬ u = v := by
        have n1 : y < x := by omega
        have n2 := h2.1 n1
        omega
      rw [if_neg c2, if_neg d2]
theorem signed_up (s : Bool) (r k : Nat) (h : k ≤ plc r) : signed s (mant r) (plc r - k) * (2 ^ k : Nat) = if s then -(unitsOf r : Int) else unitsOf r := by
  have e : mant r <<< (plc r - k) * 2 ^ k = unitsOf r := by
    rw [Nat.shiftLeft_eq, units_is, Nat.mul_assoc, ← Nat.pow_add, Nat.sub_add_cancel h]
  unfold signed
  cases s
  · simp only [Bool.false_eq_true, if_false]
    rw [← e]; simp
  · simp only [if_true]
    rw [← e]; simp [Int.neg_mul]
theorem order_rank {a b : Nat} (ha : rung a ≤ 9218868437227405312) (hb : rung b ≤ 9218868437227405312) : double.order a b = some (compare (rank a) (rank b)) := by
  unfold Format.order
  by_cases ia : rung a = 9218868437227405312
  · rw [read_inf ia]
    by_cases ib : rung b = 9218868437227405312
    · rw [read_inf ib]
      unfold rank
      rw [ia, ib]
      cases sgn a <;> cases sgn b <;> rfl
    · rw [read_number (a := b) (by omega)]
      unfold rank
      rw [ia]
      generalize rung b = q at *
      have h1 : ∀ x : Int, x < 9218868437227405312 → compare (9218868437227405312 : Int) x = .gt := fun x hx => by
        rw [show compare (9218868437227405312 : Int) x = (if (9218868437227405312 : Int) < x then .lt else if (9218868437227405312 : Int) = x then .eq else .gt) from rfl, if_neg (by omega), if_neg (by omega)]
      have h2 : ∀ x : Int, -9218868437227405312 < x → compare (-9218868437227405312 : Int) x = .lt := fun x hx => by
        rw [show compare (-9218868437227405312 : Int) x = (if (-9218868437227405312 : Int) < x then .lt else if (-9218868437227405312 : Int) = x then .eq else .gt) from rfl, if_pos (by omega)]
      cases sgn a <;> cases sgn b <;> simp [Datum.order]
      · exact (h1 _ (by omega)).symm
      · exact (h1 _ (by omega)).symm
      · exact (h2 _ (by omega)).symm
      · exact (h2 _ (by omega)).symm
  · by_cases ib : rung b = 9218868437227405312
    · rw [read_inf ib, read_number (a := a) (by omega)]
      unfold rank
      rw [ib]
      generalize rung a = q at *
      have h1 : ∀ x : Int, x < 9218868437227405312 → compare x (9218868437227405312 : Int) = .lt := fun x hx => by
        rw [show compare x (9218868437227405312 : Int) = (if x < (9218868437227405312 : Int) then .lt else if x = (9218868437227405312 : Int) then .eq else .gt) from rfl, if_pos (by omega)]
      have h2 : ∀ x : Int, -9218868437227405312 < x → compare x (-9218868437227405312 : Int) = .gt := fun x hx => by
        rw [show compare x (-9218868437227405312 : Int) = (if x < (-9218868437227405312 : Int) then .lt else if x = (-9218868437227405312 : Int) then .eq else .gt) from rfl, if_neg (by omega), if_neg (by omega)]
      cases sgn a <;> cases sgn b <;> simp [Datum.order]
      · exact (h1 _ (by omega)).symm
      · exact (h2 _ (by omega)).symm
      · exact (h1 _ (by omega)).symm
      · exact (h2 _ (by omega)).symm
    · rw [read_number (a := a) (by omega), read_number (a := b) (by omega)]
      obtain ⟨k, hk⟩ : ∃ k, k = min (plc (rung a)) (plc (rung b)) := ⟨_, rfl⟩
      have e1 : (double.leastPlace + (plc (rung a) : Nat) - min (double.leastPlace + (plc (rung a) : Nat)) (double.leastPlace + (plc (rung b) : Nat))).toNat = plc (rung a) - k := by omega
      have e2 : (double.leastPlace + (plc (rung b) : Nat) - min (double.leastPlace + (plc (rung a) : Nat)) (double.leastPlace + (plc (rung b) : Nat))).toNat = plc (rung b) - k := by omega
      simp only [Datum.order, e1, e2]
      congr 1
      have u1 := signed_up (sgn a) (rung a) k (by omega)
      have u2 := signed_up (sgn b) (rung b) k (by omega)
      have hp : (0 : Int) < ((2 ^ k : Nat) : Int) := Int.natCast_pos.2 (Nat.pow_pos (by omega))
      have f1 : (if sgn a = true then -(unitsOf (rung a) : Int) else unitsOf (rung a)) = SU a := rfl
      have f2 : (if sgn b = true then -(unitsOf (rung b) : Int) else unitsOf (rung b)) = SU b := rfl
      rw [f1] at u1
      rw [f2] at u2
      refine cmp_of ?_ ?_
      · rw [← su_lt, ← u1, ← u2]
        exact ⟨fun h => Int.mul_lt_mul_of_pos_right h hp, fun h => Int.lt_of_mul_lt_mul_right h (Int.le_of_lt hp)⟩
      · rw [← su_lt, ← u1, ← u2]
        exact ⟨fun h => Int.mul_lt_mul_of_pos_right h hp, fun h => Int.lt_of_mul_lt_mul_right h (Int.le_of_lt hp)⟩

theorem word_is {a : Nat} (h : a < 18446744073709551616) : double.word (sgn a) (rung a) = a := by
  have hs : double.signWeight = 9223372036854775808 := by decide
  unfold Format.word sgn rung
  rw [hs]
  by_cases c : a / 9223372036854775808 % 2 = 1
  · rw [if_pos (by simp [c])]; omega
  · rw [if_neg (by simp [c])]; omega
theorem cut_none (s : Bool) (n : Nat) : Toward.even.cut s n 0 = n := by
  unfold Toward.cut
  simp
  omega
theorem log_mant {r : Nat} (h : 4503599627370496 ≤ r) : (mant r).log2 = 52 := by
  have e : mant r = 4503599627370496 + r % 4503599627370496 := by unfold mant; rw [if_neg (by omega)]
  have h1 : mant r ≠ 0 := by omega
  have h2 : 52 ≤ (mant r).log2 := (Nat.le_log2 h1).2 (by rw [e]; omega)
  have h3 : (mant r).log2 < 53 := (Nat.log2_lt h1).2 (by rw [e]; omega)
  omega
theorem log_small {r : Nat} (h0 : r ≠ 0) (h : r < 4503599627370496) : r.log2 < 52 := (Nat.log2_lt h0).2 (by omega)
theorem write_read {a : Nat} (h64 : a < 18446744073709551616) (h : rung a ≤ 9218868437227405312) : double.write (double.read a) = a := by
  have hb : double.binade = 4503599627370496 := by decide
  have hi : double.infRung = 9218868437227405312 := by decide
  by_cases c : rung a = 9218868437227405312
  · rw [read_inf c]
    show double.word (sgn a) double.infRung = a
    rw [hi, ← c, word_is h64]
  · rw [read_number (by omega)]
    show double.nearest (sgn a) (mant (rung a)) (double.leastPlace + (plc (rung a) : Nat)) = a
    unfold Format.nearest
    by_cases z : mant (rung a) = 0
    · rw [if_pos z]
      have : rung a = 0 := by unfold mant at z; split at z <;> omega
      rw [← this, word_is h64]
    · rw [if_neg z]
      have hf : (double.fractionBits : Int) = 52 := rfl
      have hlast : max (double.leastPlace + (plc (rung a) : Nat) + (mant (rung a)).log2 - double.fractionBits) double.leastPlace = double.leastPlace + (plc (rung a) : Nat) := by
        by_cases g : 4503599627370496 ≤ rung a
        · rw [log_mant g, hf]; omega
        · have hp : plc (rung a) = 0 := by unfold plc; rw [if_pos (by omega)]
          have hm : mant (rung a) = rung a := by unfold mant; rw [if_pos (by omega)]
          have := log_small (r := rung a) (by omega) (by omega)
          rw [hp, hm, hf]; omega
      simp only [hlast]
      rw [show (double.leastPlace + (plc (rung a) : Nat) - (double.leastPlace + (plc (rung a) : Nat))).toNat = 0 by omega, show (double.leastPlace + (plc (rung a) : Nat) - double.leastPlace).toNat = plc (rung a) by omega, Nat.shiftLeft_zero, cut_none, hb, hi]
      have hr : plc (rung a) * 4503599627370496 + mant (rung a) = rung a := by
        unfold plc mant
        split <;> omega
      rw [hr, Nat.min_eq_left h, word_is h64]

theorem log_le52 {n : Nat} (h0 : n ≠ 0) (h : n ≤ 4503599627370496) : n.log2 ≤ 52 := by
  have := (Nat.log2_lt h0 (k := 53)).2 (by omega)
  omega
theorem whole_word (s : Bool) (n : Nat) (h0 : n ≠ 0) (h : n ≤ 4503599627370496) : double.nearest s n 0 = double.word s ((n.log2 + 1022) * 4503599627370496 + n * 2 ^ (52 - n.log2)) := by
  have hb : double.binade = 4503599627370496 := by decide
  have hi : double.infRung = 9218868437227405312 := by decide
  have hL : double.leastPlace = -1074 := by decide
  have hf : (double.fractionBits : Int) = 52 := rfl
  have hl := log_le52 h0 h
  have hlt : n < 2 ^ (n.log2 + 1) := Nat.lt_log2_self
  unfold Format.nearest
  rw [if_neg h0]
  have hlast : max (0 + (n.log2 : Int) - double.fractionBits) double.leastPlace = (n.log2 : Int) - 52 := by rw [hL, hf]; omega
  simp only [hlast]
  rw [show ((0 : Int) - ((n.log2 : Int) - 52)).toNat = 52 - n.log2 by omega, show ((n.log2 : Int) - 52 - 0).toNat = 0 by omega, show ((n.log2 : Int) - 52 - double.leastPlace).toNat = n.log2 + 1022 by rw [hL]; omega, cut_none, hb, hi, Nat.shiftLeft_eq]
  have hm : n * 2 ^ (52 - n.log2) < 9007199254740992 := by
    have h1 : n * 2 ^ (52 - n.log2) < 2 ^ (n.log2 + 1) * 2 ^ (52 - n.log2) := Nat.mul_lt_mul_of_pos_right hlt (Nat.pow_pos (by omega))
    rw [← Nat.pow_add, show n.log2 + 1 + (52 - n.log2) = 53 by omega] at h1
    simpa using h1
  rw [Nat.min_eq_left (by omega)]
theorem whole_zero (s : Bool) : double.nearest s 0 0 = double.word s 0 := by
  unfold Format.nearest
  rw [if_pos rfl]

/-- That a number is cut upwards. -/
def moreB (way : Toward) (neg : Bool) (gap rest low : Nat) : Bool :=
  match way with
    | .even => gap < 2 * rest || (gap == 2 * rest && low % 2 == 1)
    | .down => neg && rest != 0
    | .up => !neg && rest != 0
    | .zero => false
theorem cut_is (way : Toward) (s : Bool) (n d : Nat) (h : d ≤ n.log2 + 2) : way.cut s n d = n / 2 ^ d + (moreB way s (2 ^ d) (n % 2 ^ d) (n / 2 ^ d)).toNat := by
  unfold Toward.cut moreB
  simp only [Nat.min_eq_left h, Nat.shiftLeft_eq, Nat.one_mul]
  cases way <;> rfl
theorem mid_word (s : Bool) (r d : Nat) (up : Bool) (h1 : 4607182418800017408 ≤ r) (hd : r / 4503599627370496 + d = 1075) (hd1 : 1 ≤ d) :
    double.nearest s (mant r / 2 ^ d + up.toNat) 0 = double.word s (r - r % 2 ^ d + up.toNat * 2 ^ d) := by
  have hq : 1023 ≤ r / 4503599627370496 := by omega
  have hd52 : d ≤ 52 := by omega
  have hm : mant r = 4503599627370496 + r % 4503599627370496 := by unfold mant; rw [if_neg (by omega)]
  obtain ⟨k, hk⟩ : ∃ k, k = 52 - d := ⟨_, rfl⟩
  have hB : (4503599627370496 : Nat) = 2 ^ k * 2 ^ d := by rw [← Nat.pow_add, show k + d = 52 by omega]
  have hp : 0 < 2 ^ d := Nat.pow_pos (by omega)
  have hpk : 0 < 2 ^ k := Nat.pow_pos (by omega)
  obtain ⟨n, hn⟩ : ∃ n, n = mant r / 2 ^ d := ⟨_, rfl⟩
  have hdm : 2 ^ d * n + mant r % 2 ^ d = mant r := by rw [hn]; exact Nat.div_add_mod _ _
  have hrm : mant r % 2 ^ d = r % 2 ^ d := by
    have e1 : r = 2 ^ d * (2 ^ k * (r / 4503599627370496)) + r % 4503599627370496 := by
      have := Nat.div_add_mod r 4503599627370496
      rw [← Nat.mul_assoc, Nat.mul_comm (2 ^ d) (2 ^ k), ← hB]; exact this.symm
    rw [hm, hB, Nat.mul_comm (2 ^ k) (2 ^ d), Nat.mul_add_mod, ← Nat.mul_comm (2 ^ k) (2 ^ d), ← hB]
    conv => rhs; rw [e1, Nat.mul_add_mod]
  have hlo : 2 ^ k ≤ n := by rw [hn, Nat.le_div_iff_mul_le hp, ← hB, hm]; omega
  have hhi : n < 2 ^ (k + 1) := by
    rw [hn, Nat.div_lt_iff_lt_mul hp, Nat.pow_succ, Nat.mul_right_comm, ← hB, hm]
    have := Nat.mod_lt r (show 0 < 4503599627370496 by omega)
    omega
  have hr0 : r = (k + 1023) * 4503599627370496 + r % 4503599627370496 := by
    have := Nat.div_add_mod r 4503599627370496
    have e : r / 4503599627370496 = k + 1023 := by omega
    rw [e] at this; omega
  have hrest : r % 2 ^ d ≤ r := Nat.mod_le _ _
  have hnd : n * 2 ^ d + r % 2 ^ d = 4503599627370496 + r % 4503599627370496 := by rw [← hrm, Nat.mul_comm, hdm, hm]
  have hn0 : n ≠ 0 := by omega
  have hk51 : 2 ^ (k + 1) ≤ 4503599627370496 := by
    have : 2 ^ (k + 1) ≤ 2 ^ 52 := Nat.pow_le_pow_right (by omega) (by omega)
    simpa using this
  rw [← hn]
  cases up
  · have hlg : n.log2 = k := by
      have a1 := (Nat.le_log2 hn0 (k := k)).2 hlo
      have a2 := (Nat.log2_lt hn0 (k := k + 1)).2 hhi
      omega
    simp only [Bool.toNat_false, Nat.add_zero, Nat.zero_mul]
    rw [whole_word s n hn0 (by omega), hlg, show 52 - k = d by omega]
    congr 1
    omega
  · simp only [Bool.toNat_true, Nat.one_mul]
    have he : (n + 1) * 2 ^ d = n * 2 ^ d + 2 ^ d := Nat.succ_mul _ _
    by_cases g : n + 1 < 2 ^ (k + 1)
    · have hlg : (n + 1).log2 = k := by
        have a1 := (Nat.le_log2 (show n + 1 ≠ 0 by omega) (k := k)).2 (by omega)
        have a2 := (Nat.log2_lt (show n + 1 ≠ 0 by omega) (k := k + 1)).2 g
        omega
      rw [whole_word s (n + 1) (by omega) (by omega), hlg, show 52 - k = d by omega]
      congr 1
      omega
    · have e : n + 1 = 2 ^ (k + 1) := by omega
      have hlg : (n + 1).log2 = k + 1 := by rw [e, Nat.log2_two_pow]
      rw [whole_word s (n + 1) (by omega) (by omega), hlg]
      have e2 : (n + 1) * 2 ^ (52 - (k + 1)) = 4503599627370496 := by
        rw [e, ← Nat.pow_add, show k + 1 + (52 - (k + 1)) = 52 by omega]
      have e3 : (n + 1) * 2 ^ d = 9007199254740992 := by
        rw [e, ← Nat.pow_add, show k + 1 + d = 53 by omega]
      rw [e2]
      congr 1
      omega

theorem round_mid (way : Toward) {a d : Nat} (h1 : 4607182418800017408 ≤ rung a) (hd : rung a / 4503599627370496 + d = 1075) (hd1 : 1 ≤ d) :
    double.write ((double.read a).integral way) = double.word (sgn a) (rung a - rung a % 2 ^ d + (moreB way (sgn a) (2 ^ d) (mant (rung a) % 2 ^ d) (mant (rung a) / 2 ^ d)).toNat * 2 ^ d) := by
  have hL : double.leastPlace = -1074 := by decide
  have hp : plc (rung a) = rung a / 4503599627370496 - 1 := by unfold plc; rw [if_neg (by omega)]
  rw [read_number (by omega)]
  show double.nearest (sgn a) (way.cut (sgn a) (mant (rung a) <<< (double.leastPlace + (plc (rung a) : Nat)).toNat) (-(double.leastPlace + (plc (rung a) : Nat))).toNat) 0 = _
  rw [show (double.leastPlace + (plc (rung a) : Nat)).toNat = 0 by rw [hL, hp]; omega, show (-(double.leastPlace + (plc (rung a) : Nat))).toNat = d by rw [hL, hp]; omega, Nat.shiftLeft_zero,
    cut_is way _ _ d (by rw [log_mant (by omega)]; omega), mid_word _ _ d _ h1 hd hd1]

def smallUp (way : Toward) (neg : Bool) (r : Nat) : Bool :=
  match way with
    | .even => decide (4602678819172646912 < r)
    | .down => neg && r != 0
    | .up => !neg && r != 0
    | .zero => false
theorem cut_small (way : Toward) (s : Bool) (m d r : Nat) (hm : m < 2 ^ (min d (m.log2 + 2))) (hz : m = 0 ↔ r = 0) (he : 2 ^ (min d (m.log2 + 2)) < 2 * m ↔ 4602678819172646912 < r) : way.cut s m d = (smallUp way s r).toNat := by
  unfold Toward.cut smallUp
  simp only [Nat.shiftLeft_eq, Nat.one_mul, Nat.div_eq_of_lt hm, Nat.mod_eq_of_lt hm, Nat.zero_add]
  cases way
  · simp [he]
  · have : (m != 0) = (r != 0) := by rw [Bool.eq_iff_iff]; simp [hz]
    simp [this]
  · have : (m != 0) = (r != 0) := by rw [Bool.eq_iff_iff]; simp [hz]
    simp [this]
  · rfl
theorem round_small (way : Toward) {a : Nat} (h1 : rung a < 4607182418800017408) :
    double.write ((double.read a).integral way) = double.word (sgn a) (if smallUp way (sgn a) (rung a) then 4607182418800017408 else 0) := by
  have hL : double.leastPlace = -1074 := by decide
  have hw : ∀ (s up : Bool), double.nearest s up.toNat 0 = double.word s (if up then 4607182418800017408 else 0) := fun s up => by
    cases up
    · exact whole_zero s
    · have := whole_word s 1 (by omega) (by omega)
      rw [show (1 : Nat).log2 = 0 by decide] at this
      exact this
  rw [read_number (by omega)]
  show double.nearest (sgn a) (way.cut (sgn a) (mant (rung a) <<< (double.leastPlace + (plc (rung a) : Nat)).toNat) (-(double.leastPlace + (plc (rung a) : Nat))).toNat) 0 = _
  by_cases g : rung a < 4503599627370496
  · have hp : plc (rung a) = 0 := by unfold plc; rw [if_pos g]
    have hm : mant (rung a) = rung a := by unfold mant; rw [if_pos g]
    have hl : rung a ≠ 0 → (rung a).log2 < 52 := fun h0 => log_small h0 g
    have hl' : (rung a).log2 < 52 := by
      by_cases h0 : rung a = 0
      · rw [h0]; decide
      · exact hl h0
    have hlt : rung a < 2 ^ ((rung a).log2 + 1) := Nat.lt_log2_self
    have e2 : 2 ^ ((rung a).log2 + 2) = 2 * 2 ^ ((rung a).log2 + 1) := by rw [Nat.pow_succ, Nat.mul_comm]
    rw [hp, hm, show (double.leastPlace + ((0 : Nat) : Int)).toNat = 0 by rw [hL]; omega, show (-(double.leastPlace + ((0 : Nat) : Int))).toNat = 1074 by rw [hL]; omega, Nat.shiftLeft_zero,
      cut_small way (sgn a) (rung a) 1074 (rung a) (by rw [Nat.min_eq_right (by omega), e2]; omega) Iff.rfl (by rw [Nat.min_eq_right (by omega), e2]; omega), hw]
  · have hq1 : 1 ≤ rung a / 4503599627370496 := by omega
    have hq2 : rung a / 4503599627370496 ≤ 1022 := by omega
    have hp : plc (rung a) = rung a / 4503599627370496 - 1 := by unfold plc; rw [if_neg g]
    have hm : mant (rung a) = 4503599627370496 + rung a % 4503599627370496 := by unfold mant; rw [if_neg g]
    have hlg := log_mant (r := rung a) (by omega)
    obtain ⟨d, hd⟩ : ∃ d, d = 1075 - rung a / 4503599627370496 := ⟨_, rfl⟩
    have hmin : 2 ^ (min d ((mant (rung a)).log2 + 2)) = if d = 53 then 9007199254740992 else 18014398509481984 := by
      rw [hlg]
      by_cases c : d = 53
      · rw [c]; rfl
      · rw [if_neg c, Nat.min_eq_right (by omega)]
    rw [show (double.leastPlace + (plc (rung a) : Nat)).toNat = 0 by rw [hL, hp]; omega, show (-(double.leastPlace + (plc (rung a) : Nat))).toNat = d by rw [hL, hp]; omega, Nat.shiftLeft_zero,
      cut_small way (sgn a) (mant (rung a)) d (rung a) (by rw [hmin, hm]; split <;> omega) (by rw [hm]; omega) (by rw [hmin, hm]; split <;> omega), hw]

theorem round_big (way : Toward) {a : Nat} (h64 : a < 18446744073709551616) (h1 : 4841369599423283200 ≤ rung a) (h2 : rung a < 9218868437227405312) : double.write ((double.read a).integral way) = a := by
  have hL : double.leastPlace = -1074 := by decide
  have hb : double.binade = 4503599627370496 := by decide
  have hi : double.infRung = 9218868437227405312 := by decide
  have hf : (double.fractionBits : Int) = 52 := rfl
  have hp : plc (rung a) = rung a / 4503599627370496 - 1 := by unfold plc; rw [if_neg (by omega)]
  have hm : mant (rung a) = 4503599627370496 + rung a % 4503599627370496 := by unfold mant; rw [if_neg (by omega)]
  obtain ⟨j, hj⟩ : ∃ j, j = rung a / 4503599627370496 - 1075 := ⟨_, rfl⟩
  rw [read_number h2]
  show double.nearest (sgn a) (way.cut (sgn a) (mant (rung a) <<< (double.leastPlace + (plc (rung a) : Nat)).toNat) (-(double.leastPlace + (plc (rung a) : Nat))).toNat) 0 = _
  have hc0 : ∀ n : Nat, way.cut (sgn a) n 0 = n := fun n => by
    have := cut_is way (sgn a) n 0 (by omega)
    rw [this]
    simp only [Nat.pow_zero, Nat.div_one, Nat.mod_one]
    cases way <;> simp [moreB]
  rw [show (double.leastPlace + (plc (rung a) : Nat)).toNat = j by rw [hL, hp]; omega, show (-(double.leastPlace + (plc (rung a) : Nat))).toNat = 0 by rw [hL, hp]; omega, hc0]
  have hmz : mant (rung a) ≠ 0 := by omega
  have hpj : 0 < 2 ^ j := Nat.pow_pos (by omega)
  have hlg : (mant (rung a) <<< j).log2 = 52 + j := by
    rw [Nat.shiftLeft_eq]
    have a0 : mant (rung a) * 2 ^ j ≠ 0 := Nat.mul_ne_zero hmz (by omega)
    have b1 : 2 ^ (52 + j) ≤ mant (rung a) * 2 ^ j := by rw [Nat.pow_add]; exact Nat.mul_le_mul_right _ (by rw [hm]; omega)
    have b2 : mant (rung a) * 2 ^ j < 2 ^ (53 + j) := by rw [Nat.pow_add]; exact Nat.mul_lt_mul_of_pos_right (by rw [hm]; omega) hpj
    have a1 := (Nat.le_log2 a0 (k := 52 + j)).2 b1
    have a2 := (Nat.log2_lt a0 (k := 53 + j)).2 b2
    omega
  unfold Format.nearest
  rw [if_neg (by rw [Nat.shiftLeft_eq]; exact Nat.mul_ne_zero hmz (by omega))]
  have hlast : max (0 + ((mant (rung a) <<< j).log2 : Int) - double.fractionBits) double.leastPlace = (j : Int) := by rw [hlg, hL, hf]; omega
  simp only [hlast]
  rw [show ((0 : Int) - (j : Int)).toNat = 0 by omega, show ((j : Int) - 0).toNat = j by omega, show ((j : Int) - double.leastPlace).toNat = j + 1074 by rw [hL]; omega, Nat.shiftLeft_zero,
    cut_is .even _ _ j (by rw [hlg]; omega), Nat.shiftLeft_eq, Nat.mul_div_cancel _ hpj, Nat.mul_mod_left, hb, hi]
  have hmo : moreB .even (sgn a) (2 ^ j) 0 (mant (rung a)) = false := by simp [moreB]
  rw [hmo]
  simp only [Bool.toNat_false, Nat.add_zero]
  have hr : (j + 1074) * 4503599627370496 + mant (rung a) = rung a := by rw [hm]; omega
  rw [hr, Nat.min_eq_left (by omega), word_is h64]
/-! ### Sums and products do not hang on the order -/
theorem sum_comm (x y : Datum) : x.sum y = y.sum x := by
  cases x with
  | nan s f => cases y <;> simp [Datum.sum]
  | infinity s => 
    cases y with
    | nan t f => simp [Datum.sum]
    | infinity t => cases s <;> cases t <;> rfl
    | number t n j => simp [Datum.sum]
  | number s m i =>
    cases y with
    | nan t f => simp [Datum.sum]
    | infinity t => simp [Datum.sum]
    | number t n j =>
      simp only [Datum.sum]
      rw [Int.min_comm j i, Int.add_comm (signed t n _), Bool.and_comm t s]
theorem product_comm (x y : Datum) : x.product y = y.product x := by
  cases x with
  | nan s f => cases y <;> simp [Datum.product]
  | infinity s =>
    cases y with
    | nan t f => simp [Datum.product]
    | infinity t => simp [Datum.product, Bool.xor_comm]
    | number t n j => simp [Datum.product]
  | number s m i =>
    cases y with
    | nan t f => simp [Datum.product]
    | infinity t => simp [Datum.product]
    | number t n j => simp only [Datum.product]; rw [Bool.xor_comm, Nat.mul_comm, Int.add_comm]
theorem add_comm' (a b : Nat) : double.add a b = double.add b a := by unfold Format.add; rw [sum_comm]
theorem mul_comm' (a b : Nat) : double.mul a b = double.mul b a := by unfold Format.mul; rw [product_comm]
end Go.Proofs.Ytckdbgejpagkpaa
