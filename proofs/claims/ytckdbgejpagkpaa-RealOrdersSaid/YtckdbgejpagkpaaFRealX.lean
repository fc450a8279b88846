/-
  Numbers with a point: RealOrders: by 1 a number stays, less itself it is nought.
-/
import Derived.Test.YtckdbgejpagkpaaFRealW
namespace Go.Proofs.Ytckdbgejpagkpaa
open Go Go.RowKit
set_option linter.unusedVariables false
set_option linter.unusedSimpArgs false

theorem scaled (s : Bool) (r k : Nat) (h : r < 9218868437227405312) : Ieee.double.nearest s (mant r * 2 ^ k) (Ieee.double.leastPlace + (plc r : Nat) - (k : Int)) = Ieee.double.word s r := by
  have hb : Ieee.double.binade = 4503599627370496 := by decide
  have hi : Ieee.double.infRung = 9218868437227405312 := by decide
  have hf : (Ieee.double.fractionBits : Int) = 52 := rfl
  have hpk : 0 < 2 ^ k := Nat.pow_pos (by omega)
  unfold Ieee.Format.nearest
  by_cases z : mant r = 0
  · rw [z, Nat.zero_mul, if_pos rfl]
    have : r = 0 := by unfold mant at z; split at z <;> omega
    rw [this]
  · have hmz : mant r * 2 ^ k ≠ 0 := Nat.mul_ne_zero z (by omega)
    rw [if_neg hmz]
    have hlg : (mant r * 2 ^ k).log2 = (mant r).log2 + k := by
      have a1 := (Nat.le_log2 hmz (k := (mant r).log2 + k)).2 (by rw [Nat.pow_add]; exact Nat.mul_le_mul_right _ ((Nat.le_log2 z).1 (Nat.le_refl _)))
      have a2 := (Nat.log2_lt hmz (k := (mant r).log2 + 1 + k)).2 (by rw [Nat.pow_add]; exact Nat.mul_lt_mul_of_pos_right Nat.lt_log2_self hpk)
      omega
    have hlast : max (Ieee.double.leastPlace + (plc r : Nat) - (k : Int) + ((mant r * 2 ^ k).log2 : Nat) - Ieee.double.fractionBits) Ieee.double.leastPlace = Ieee.double.leastPlace + (plc r : Nat) := by
      rw [hlg]
      by_cases g : 4503599627370496 ≤ r
      · rw [log_mant g, hf]; omega
      · have hp : plc r = 0 := by unfold plc; rw [if_pos (by omega)]
        have hm : mant r = r := by unfold mant; rw [if_pos (by omega)]
        have := log_small (r := r) (by omega) (by omega)
        rw [hp, hm, hf]; omega
    simp only [hlast]
    rw [show (Ieee.double.leastPlace + (plc r : Nat) - (k : Int) - (Ieee.double.leastPlace + (plc r : Nat))).toNat = 0 by omega, show (Ieee.double.leastPlace + (plc r : Nat) - (Ieee.double.leastPlace + (plc r : Nat) - (k : Int))).toNat = k by omega,
      show (Ieee.double.leastPlace + (plc r : Nat) - Ieee.double.leastPlace).toNat = plc r by omega, Nat.shiftLeft_zero, cut_is .even _ _ k (by rw [hlg]; omega), Nat.mul_div_cancel _ hpk, Nat.mul_mod_left, moreB_zero _ _ _ _ hpk, hb, hi]
    have hr : plc r * 4503599627370496 + (mant r + (false).toNat) = r := by
      unfold plc mant
      simp only [Bool.toNat_false, Nat.add_zero]
      split <;> omega
    rw [hr, Nat.min_eq_left (by omega)]
theorem read_one : Ieee.double.read 4607182418800017408 = .number false 4503599627370496 (-52) := by decide +kernel
theorem mul_one' (a : Nat) (h : a < 18446744073709551616) (hn : nanB a = false) : opR .mul a 4607182418800017408 = a := by
  have hle := of_decide_eq_false hn
  rw [opR_mul, read_one]
  by_cases c : rung a = 9218868437227405312
  · rw [read_inf c]
    show Ieee.double.write (.infinity (sgn a ^^ false)) = a
    have hinf : Ieee.double.infRung = 9218868437227405312 := by decide
    rw [Bool.xor_false]
    show Ieee.double.word (sgn a) Ieee.double.infRung = a
    rw [hinf, ← c, word_is h]
  · rw [read_number (by omega)]
    show Ieee.double.nearest (sgn a ^^ false) (mant (rung a) * 4503599627370496) (Ieee.double.leastPlace + (plc (rung a) : Nat) + -52) = a
    have := scaled (sgn a) (rung a) 52 (by omega)
    rw [show (2 : Nat) ^ 52 = 4503599627370496 from rfl] at this
    rw [Bool.xor_false, show Ieee.double.leastPlace + (plc (rung a) : Nat) + -52 = Ieee.double.leastPlace + (plc (rung a) : Nat) - ((52 : Nat) : Int) by omega, this, word_is h]
theorem quotient_nan (x y : Ieee.Datum) (k : Nat) (d : Ieee.Datum) (h : x.quotient k y = some d) : d.isNaN = false := by
  cases x with
  | nan s f => cases y <;> simp [Ieee.Datum.quotient] at h
  | infinity s => cases y <;> simp [Ieee.Datum.quotient] at h <;> subst h <;> rfl
  | number s m i =>
    cases y with
    | nan t f => simp [Ieee.Datum.quotient] at h
    | infinity t => simp [Ieee.Datum.quotient] at h; subst h; rfl
    | number t n j =>
      unfold Ieee.Datum.quotient at h
      simp only at h
      split at h
      · split at h
        · cases h
        · cases h; rfl
      · cases h; rfl
theorem opR_quo (a b : Nat) : opR .quo a b = match (Ieee.double.read a).quotient 54 (Ieee.double.read b) with | some d => Ieee.double.write d | none => 9221120237041090560 := by
  unfold opR floatBits
  show (match Ieee.double.div a b with | some r => canon r | none => _) = _
  unfold Ieee.Format.div
  rw [show Ieee.double.fractionBits + 2 = 54 from rfl]
  cases h : (Ieee.double.read a).quotient 54 (Ieee.double.read b) with
  | none => rfl
  | some d =>
    show canon (Ieee.double.write d) = _
    exact canon_of (write_nanB d (quotient_nan _ _ _ _ h))
theorem div_one' (a : Nat) (h : a < 18446744073709551616) (hn : nanB a = false) : opR .quo a 4607182418800017408 = a := by
  have hle := of_decide_eq_false hn
  rw [opR_quo, read_one]
  by_cases c : rung a = 9218868437227405312
  · rw [read_inf c]
    show Ieee.double.write (.infinity (sgn a ^^ false)) = a
    have hinf : Ieee.double.infRung = 9218868437227405312 := by decide
    rw [Bool.xor_false]
    show Ieee.double.word (sgn a) Ieee.double.infRung = a
    rw [hinf, ← c, word_is h]
  · rw [read_number (by omega)]
    obtain ⟨m, hm⟩ : ∃ m, m = mant (rung a) := ⟨_, rfl⟩
    have hml : m.log2 ≤ 52 := by
      by_cases g : 4503599627370496 ≤ rung a
      · rw [hm, log_mant g]; omega
      · by_cases z : rung a = 0
        · have : m = 0 := by rw [hm, z]; rfl
          rw [this]; decide
        · have hmr : m = rung a := by rw [hm]; unfold mant; rw [if_pos (by omega)]
          have := log_small (r := rung a) z (by omega)
          rw [hmr]; omega
    obtain ⟨more, hmo⟩ : ∃ more, more = 54 + 52 - m.log2 := ⟨_, rfl⟩
    have hl52 : (4503599627370496 : Nat).log2 = 52 := by decide +kernel
    have e1 : (m <<< more) / 4503599627370496 = m * 2 ^ (more - 52) := by
      rw [Nat.shiftLeft_eq, show (2 : Nat) ^ more = 2 ^ (more - 52) * 4503599627370496 by rw [show (4503599627370496 : Nat) = 2 ^ 52 from rfl, ← Nat.pow_add]; congr 1; omega, ← Nat.mul_assoc, Nat.mul_div_cancel _ (by omega)]
    have e2 : (m <<< more) % 4503599627370496 = 0 := by
      rw [Nat.shiftLeft_eq, show (2 : Nat) ^ more = 2 ^ (more - 52) * 4503599627370496 by rw [show (4503599627370496 : Nat) = 2 ^ 52 from rfl, ← Nat.pow_add]; congr 1; omega, ← Nat.mul_assoc, Nat.mul_mod_left]
    have key : (Ieee.Datum.number (sgn a) m (Ieee.double.leastPlace + (plc (rung a) : Nat))).quotient 54 (.number false 4503599627370496 (-52)) =
        some (.number (sgn a ^^ false) (2 * ((m <<< more) / 4503599627370496) + ((m <<< more) % 4503599627370496 != 0).toNat) (Ieee.double.leastPlace + (plc (rung a) : Nat) - -52 - more - 1)) := by
      unfold Ieee.Datum.quotient
      simp only
      rw [if_neg (by omega), hl52, ← hmo]
    rw [← hm, key, e1, e2]
    show Ieee.double.nearest (sgn a ^^ false) (2 * (m * 2 ^ (more - 52)) + ((0 : Nat) != 0).toNat) (Ieee.double.leastPlace + (plc (rung a) : Nat) - -52 - more - 1) = a
    have := scaled (sgn a) (rung a) (more - 51) (by omega)
    rw [← hm] at this
    rw [Bool.xor_false, show ((0 : Nat) != 0).toNat = 0 from rfl, Nat.add_zero, show 2 * (m * 2 ^ (more - 52)) = m * 2 ^ (more - 51) by rw [show more - 51 = more - 52 + 1 by omega, Nat.pow_succ, Nat.mul_comm 2, Nat.mul_assoc],
      show Ieee.double.leastPlace + (plc (rung a) : Nat) - -52 - (more : Int) - 1 = Ieee.double.leastPlace + (plc (rung a) : Nat) - ((more - 51 : Nat) : Int) by omega, this, word_is h]
theorem less_self (a : Nat) (h : a < 18446744073709551616) (hn : nanB a = false) : opR .add a (flipR a) = if infB a then 9221120237041090560 else 0 := by
  have hle := of_decide_eq_false hn
  rw [opR_add, read_flip a h hn]
  by_cases c : rung a = 9218868437227405312
  · rw [read_inf c, show infB a = true from decide_eq_true c]
    cases sgn a <;> rfl
  · rw [read_number (by omega), show infB a = false from decide_eq_false c]
    obtain ⟨p, hp⟩ : ∃ p, p = Ieee.double.leastPlace + (plc (rung a) : Nat) := ⟨_, rfl⟩
    rw [← hp]
    have key : (Ieee.Datum.number (sgn a) (mant (rung a)) p).sum (Ieee.Datum.number (sgn a) (mant (rung a)) p).opposite = some (.number false 0 p) := by
      have hT : Ieee.signed (sgn a) (mant (rung a)) (p - min p p).toNat + Ieee.signed (!sgn a) (mant (rung a)) (p - min p p).toNat = 0 := by rw [signed_not]; omega
      show some (Ieee.Datum.number (if Ieee.signed (sgn a) (mant (rung a)) (p - min p p).toNat + Ieee.signed (!sgn a) (mant (rung a)) (p - min p p).toNat = 0 then _ else _) (Ieee.signed (sgn a) (mant (rung a)) (p - min p p).toNat + Ieee.signed (!sgn a) (mant (rung a)) (p - min p p).toNat).natAbs (min p p)) = _
      rw [hT, if_pos rfl, show min p p = p by omega]
      cases sgn a <;> rfl
    rw [key]
    show Ieee.double.write (.number false 0 p) = 0
    rw [zero_word]; rfl
theorem opR_comm_add (a b : Nat) : opR .add b a = opR .add a b := by rw [opR_add, opR_add, sum_comm]
theorem opR_comm_mul (a b : Nat) : opR .mul b a = opR .mul a b := by rw [opR_mul, opR_mul, product_comm]
set_option maxRecDepth 100000 in
set_option maxHeartbeats 1000000 in
theorem orders_core (a b s m d f : Nat) (ha : a < 18446744073709551616) (hs : s < 18446744073709551616) (hd : d < 18446744073709551616) (hf : flipR a = f)
    (s1 : opR .add a b = s) (s2 : opR .add b a = s) (m1 : opR .mul a b = m) (m2 : opR .mul b a = m) (d1 : opR .add a f = d) (ca cs cd : Int) (k1 : clsR a = ca) (k2 : clsR s = cs) (k3 : clsR d = cd)
    (o p q : Int) (o1 : cmpR a b = o) (o2 : cmpR b a = p) (o3 : cmpR a a = q) (op1 : -2 ≤ p) (op2 : p ≤ 2)
    (ho : (o = 2 ∧ p = 2) ∨ (((o == 2) : Bool) = false ∧ ((o != 2) : Bool) = true ∧ p = -o))
    (u1 : ca ≠ 4 → ∀ w, Calls Try.prog 16 #[.int .u64 a, .int .u64 4607182418800017408] w fun e w' => e = .returned (.int .u64 a) ∧ Below w.heap.size w w')
    (u2 : ca ≠ 4 → ∀ w, Calls Try.prog 18 #[.int .u64 a, .int .u64 4607182418800017408] w fun e w' => e = .returned (.int .u64 a) ∧ Below w.heap.size w w')
    (hc : (ca = 4 ∧ cs = 4 ∧ q = 2) ∨ (ca = 3 ∧ cd = 4) ∨ (((ca == 4) : Bool) = false ∧ ((ca == 3) : Bool) = false ∧ ((ca != 3) : Bool) = true ∧ d = 0)) (w : World) :
    Calls Try.prog 5 #[.int .u64 a, .int .u64 b] w fun e w' => e = .returned (.bool true) ∧ Below w.heap.size w w' := by
  have HB : Hid (Below w.heap.size w w) := Lib.hid (Below.refl _ _)
  have x1 := xor_flip a ha
  rw [hf] at x1
  have S1 := Lib.hid s1; have S2 := Lib.hid s2; have M1 := Lib.hid m1; have M2 := Lib.hid m2; have D1 := Lib.hid d1; have K1 := Lib.hid k1; have K2 := Lib.hid k2; have K3 := Lib.hid k3
  have O1 := Lib.hid o1; have O2 := Lib.hid o2; have O3 := Lib.hid o3; have HS := Lib.hid hs; have HD := Lib.hid hd
  clear s1 s2 m1 m2 d1 k1 k2 k3 o1 o2 o3 hs hd hf
  rcases hc with ⟨rfl, rfl, rfl⟩ | ⟨rfl, rfl⟩ | ⟨h1, h2, h3, rfl⟩
  · have U1 : True := trivial
    have U2 : True := trivial
    clear u1 u2
    rcases ho with ⟨rfl, rfl⟩ | ⟨g1, g2, g3⟩
    · skip
      go_enter Try.func5, Try.ntmps5
      go_wp2_with (first
        | (go_at_call 10; (with_reducible refine (b_same (classR_in a ha _)).mono ?_); rintro e w' ⟨rfl, hB⟩; rw [K1.out]; replace HB := hidB HB hB; clear hB)
        | (go_at_call 10; (with_reducible refine (b_same (classR_in s HS.out _)).mono ?_); rintro e w' ⟨rfl, hB⟩; rw [K2.out]; replace HB := hidB HB hB; clear hB)
        | (go_at_call 10; (with_reducible refine (b_same (classR_in d HD.out _)).mono ?_); rintro e w' ⟨rfl, hB⟩; rw [K3.out]; replace HB := hidB HB hB; clear hB)
        | (go_at_call 14; (with_reducible refine (b_drew (add_in a b _)).mono ?_); rintro e w' ⟨rfl, hB⟩; rw [S1.out]; replace HB := hidB HB hB; clear hB)
        | (go_at_call 14; (with_reducible refine (b_drew (add_in b a _)).mono ?_); rintro e w' ⟨rfl, hB⟩; rw [S2.out]; replace HB := hidB HB hB; clear hB)
        | (go_at_call 14; (with_reducible refine (b_drew (add_in a f _)).mono ?_); rintro e w' ⟨rfl, hB⟩; rw [D1.out]; replace HB := hidB HB hB; clear hB)
        | (go_at_call 16; (with_reducible refine (b_drew (mul_in a b _)).mono ?_); rintro e w' ⟨rfl, hB⟩; rw [M1.out]; replace HB := hidB HB hB; clear hB)
        | (go_at_call 16; (with_reducible refine (b_drew (mul_in b a _)).mono ?_); rintro e w' ⟨rfl, hB⟩; rw [M2.out]; replace HB := hidB HB hB; clear hB)
        | (go_at_call 20; (with_reducible refine (order_in a b _).mono ?_); rintro e w' ⟨rfl, hB⟩; rw [O1.out]; replace HB := hidB HB hB; clear hB)
        | (go_at_call 20; (with_reducible refine (order_in b a _).mono ?_); rintro e w' ⟨rfl, hB⟩; rw [O2.out]; replace HB := hidB HB hB; clear hB)
        | (go_at_call 20; (with_reducible refine (order_in a a _).mono ?_); rintro e w' ⟨rfl, hB⟩; rw [O3.out]; replace HB := hidB HB hB; clear hB)
        | (go_at_call 11; (with_reducible refine (awake_in _).mono ?_); rintro e w' ⟨rfl, hB⟩; replace HB := hidB HB hB; clear hB))
      go_ret
      exact ⟨rfl, HB.out⟩
    · skip
      have g4 : ((o != -p) : Bool) = false := by rw [g3]; simp
      clear g3
      go_enter Try.func5, Try.ntmps5
      go_wp2_with (first
        | (go_at_call 10; (with_reducible refine (b_same (classR_in a ha _)).mono ?_); rintro e w' ⟨rfl, hB⟩; rw [K1.out]; replace HB := hidB HB hB; clear hB)
        | (go_at_call 10; (with_reducible refine (b_same (classR_in s HS.out _)).mono ?_); rintro e w' ⟨rfl, hB⟩; rw [K2.out]; replace HB := hidB HB hB; clear hB)
        | (go_at_call 10; (with_reducible refine (b_same (classR_in d HD.out _)).mono ?_); rintro e w' ⟨rfl, hB⟩; rw [K3.out]; replace HB := hidB HB hB; clear hB)
        | (go_at_call 14; (with_reducible refine (b_drew (add_in a b _)).mono ?_); rintro e w' ⟨rfl, hB⟩; rw [S1.out]; replace HB := hidB HB hB; clear hB)
        | (go_at_call 14; (with_reducible refine (b_drew (add_in b a _)).mono ?_); rintro e w' ⟨rfl, hB⟩; rw [S2.out]; replace HB := hidB HB hB; clear hB)
        | (go_at_call 14; (with_reducible refine (b_drew (add_in a f _)).mono ?_); rintro e w' ⟨rfl, hB⟩; rw [D1.out]; replace HB := hidB HB hB; clear hB)
        | (go_at_call 16; (with_reducible refine (b_drew (mul_in a b _)).mono ?_); rintro e w' ⟨rfl, hB⟩; rw [M1.out]; replace HB := hidB HB hB; clear hB)
        | (go_at_call 16; (with_reducible refine (b_drew (mul_in b a _)).mono ?_); rintro e w' ⟨rfl, hB⟩; rw [M2.out]; replace HB := hidB HB hB; clear hB)
        | (go_at_call 20; (with_reducible refine (order_in a b _).mono ?_); rintro e w' ⟨rfl, hB⟩; rw [O1.out]; replace HB := hidB HB hB; clear hB)
        | (go_at_call 20; (with_reducible refine (order_in b a _).mono ?_); rintro e w' ⟨rfl, hB⟩; rw [O2.out]; replace HB := hidB HB hB; clear hB)
        | (go_at_call 20; (with_reducible refine (order_in a a _).mono ?_); rintro e w' ⟨rfl, hB⟩; rw [O3.out]; replace HB := hidB HB hB; clear hB)
        | (go_at_call 11; (with_reducible refine (awake_in _).mono ?_); rintro e w' ⟨rfl, hB⟩; replace HB := hidB HB hB; clear hB))
      go_ret
      exact ⟨rfl, HB.out⟩
  · have U1 := Lib.hid (u1 (by omega)); have U2 := Lib.hid (u2 (by omega))
    clear u1 u2
    rcases ho with ⟨rfl, rfl⟩ | ⟨g1, g2, g3⟩
    · skip
      go_enter Try.func5, Try.ntmps5
      go_wp2_with (first
        | (go_at_call 10; (with_reducible refine (b_same (classR_in a ha _)).mono ?_); rintro e w' ⟨rfl, hB⟩; rw [K1.out]; replace HB := hidB HB hB; clear hB)
        | (go_at_call 10; (with_reducible refine (b_same (classR_in s HS.out _)).mono ?_); rintro e w' ⟨rfl, hB⟩; rw [K2.out]; replace HB := hidB HB hB; clear hB)
        | (go_at_call 10; (with_reducible refine (b_same (classR_in d HD.out _)).mono ?_); rintro e w' ⟨rfl, hB⟩; rw [K3.out]; replace HB := hidB HB hB; clear hB)
        | (go_at_call 14; (with_reducible refine (b_drew (add_in a b _)).mono ?_); rintro e w' ⟨rfl, hB⟩; rw [S1.out]; replace HB := hidB HB hB; clear hB)
        | (go_at_call 14; (with_reducible refine (b_drew (add_in b a _)).mono ?_); rintro e w' ⟨rfl, hB⟩; rw [S2.out]; replace HB := hidB HB hB; clear hB)
        | (go_at_call 14; (with_reducible refine (b_drew (add_in a f _)).mono ?_); rintro e w' ⟨rfl, hB⟩; rw [D1.out]; replace HB := hidB HB hB; clear hB)
        | (go_at_call 16; (with_reducible refine (b_drew (mul_in a b _)).mono ?_); rintro e w' ⟨rfl, hB⟩; rw [M1.out]; replace HB := hidB HB hB; clear hB)
        | (go_at_call 16; (with_reducible refine (b_drew (mul_in b a _)).mono ?_); rintro e w' ⟨rfl, hB⟩; rw [M2.out]; replace HB := hidB HB hB; clear hB)
        | (go_at_call 20; (with_reducible refine (order_in a b _).mono ?_); rintro e w' ⟨rfl, hB⟩; rw [O1.out]; replace HB := hidB HB hB; clear hB)
        | (go_at_call 20; (with_reducible refine (order_in b a _).mono ?_); rintro e w' ⟨rfl, hB⟩; rw [O2.out]; replace HB := hidB HB hB; clear hB)
        | (go_at_call 20; (with_reducible refine (order_in a a _).mono ?_); rintro e w' ⟨rfl, hB⟩; rw [O3.out]; replace HB := hidB HB hB; clear hB)
        | (go_at_call 16; (with_reducible refine (U1.out _).mono ?_); rintro e w' ⟨rfl, hB⟩; replace HB := hidB HB hB; clear hB)
        | (go_at_call 18; (with_reducible refine (U2.out _).mono ?_); rintro e w' ⟨rfl, hB⟩; replace HB := hidB HB hB; clear hB)
        | (go_at_call 11; (with_reducible refine (awake_in _).mono ?_); rintro e w' ⟨rfl, hB⟩; replace HB := hidB HB hB; clear hB))
      go_ret
      exact ⟨rfl, HB.out⟩
    · skip
      have g4 : ((o != -p) : Bool) = false := by rw [g3]; simp
      clear g3
      go_enter Try.func5, Try.ntmps5
      go_wp2_with (first
        | (go_at_call 10; (with_reducible refine (b_same (classR_in a ha _)).mono ?_); rintro e w' ⟨rfl, hB⟩; rw [K1.out]; replace HB := hidB HB hB; clear hB)
        | (go_at_call 10; (with_reducible refine (b_same (classR_in s HS.out _)).mono ?_); rintro e w' ⟨rfl, hB⟩; rw [K2.out]; replace HB := hidB HB hB; clear hB)
        | (go_at_call 10; (with_reducible refine (b_same (classR_in d HD.out _)).mono ?_); rintro e w' ⟨rfl, hB⟩; rw [K3.out]; replace HB := hidB HB hB; clear hB)
        | (go_at_call 14; (with_reducible refine (b_drew (add_in a b _)).mono ?_); rintro e w' ⟨rfl, hB⟩; rw [S1.out]; replace HB := hidB HB hB; clear hB)
        | (go_at_call 14; (with_reducible refine (b_drew (add_in b a _)).mono ?_); rintro e w' ⟨rfl, hB⟩; rw [S2.out]; replace HB := hidB HB hB; clear hB)
        | (go_at_call 14; (with_reducible refine (b_drew (add_in a f _)).mono ?_); rintro e w' ⟨rfl, hB⟩; rw [D1.out]; replace HB := hidB HB hB; clear hB)
        | (go_at_call 16; (with_reducible refine (b_drew (mul_in a b _)).mono ?_); rintro e w' ⟨rfl, hB⟩; rw [M1.out]; replace HB := hidB HB hB; clear hB)
        | (go_at_call 16; (with_reducible refine (b_drew (mul_in b a _)).mono ?_); rintro e w' ⟨rfl, hB⟩; rw [M2.out]; replace HB := hidB HB hB; clear hB)
        | (go_at_call 20; (with_reducible refine (order_in a b _).mono ?_); rintro e w' ⟨rfl, hB⟩; rw [O1.out]; replace HB := hidB HB hB; clear hB)
        | (go_at_call 20; (with_reducible refine (order_in b a _).mono ?_); rintro e w' ⟨rfl, hB⟩; rw [O2.out]; replace HB := hidB HB hB; clear hB)
        | (go_at_call 20; (with_reducible refine (order_in a a _).mono ?_); rintro e w' ⟨rfl, hB⟩; rw [O3.out]; replace HB := hidB HB hB; clear hB)
        | (go_at_call 16; (with_reducible refine (U1.out _).mono ?_); rintro e w' ⟨rfl, hB⟩; replace HB := hidB HB hB; clear hB)
        | (go_at_call 18; (with_reducible refine (U2.out _).mono ?_); rintro e w' ⟨rfl, hB⟩; replace HB := hidB HB hB; clear hB)
        | (go_at_call 11; (with_reducible refine (awake_in _).mono ?_); rintro e w' ⟨rfl, hB⟩; replace HB := hidB HB hB; clear hB))
      go_ret
      exact ⟨rfl, HB.out⟩
  · have U1 := Lib.hid (u1 (by rw [beq_eq_false_iff_ne] at h1; exact h1)); have U2 := Lib.hid (u2 (by rw [beq_eq_false_iff_ne] at h1; exact h1))
    clear u1 u2
    rcases ho with ⟨rfl, rfl⟩ | ⟨g1, g2, g3⟩
    · skip
      go_enter Try.func5, Try.ntmps5
      go_wp2_with (first
        | (go_at_call 10; (with_reducible refine (b_same (classR_in a ha _)).mono ?_); rintro e w' ⟨rfl, hB⟩; rw [K1.out]; replace HB := hidB HB hB; clear hB)
        | (go_at_call 10; (with_reducible refine (b_same (classR_in s HS.out _)).mono ?_); rintro e w' ⟨rfl, hB⟩; rw [K2.out]; replace HB := hidB HB hB; clear hB)
        | (go_at_call 10; (with_reducible refine (b_same (classR_in d HD.out _)).mono ?_); rintro e w' ⟨rfl, hB⟩; rw [K3.out]; replace HB := hidB HB hB; clear hB)
        | (go_at_call 14; (with_reducible refine (b_drew (add_in a b _)).mono ?_); rintro e w' ⟨rfl, hB⟩; rw [S1.out]; replace HB := hidB HB hB; clear hB)
        | (go_at_call 14; (with_reducible refine (b_drew (add_in b a _)).mono ?_); rintro e w' ⟨rfl, hB⟩; rw [S2.out]; replace HB := hidB HB hB; clear hB)
        | (go_at_call 14; (with_reducible refine (b_drew (add_in a f _)).mono ?_); rintro e w' ⟨rfl, hB⟩; rw [D1.out]; replace HB := hidB HB hB; clear hB)
        | (go_at_call 16; (with_reducible refine (b_drew (mul_in a b _)).mono ?_); rintro e w' ⟨rfl, hB⟩; rw [M1.out]; replace HB := hidB HB hB; clear hB)
        | (go_at_call 16; (with_reducible refine (b_drew (mul_in b a _)).mono ?_); rintro e w' ⟨rfl, hB⟩; rw [M2.out]; replace HB := hidB HB hB; clear hB)
        | (go_at_call 20; (with_reducible refine (order_in a b _).mono ?_); rintro e w' ⟨rfl, hB⟩; rw [O1.out]; replace HB := hidB HB hB; clear hB)
        | (go_at_call 20; (with_reducible refine (order_in b a _).mono ?_); rintro e w' ⟨rfl, hB⟩; rw [O2.out]; replace HB := hidB HB hB; clear hB)
        | (go_at_call 20; (with_reducible refine (order_in a a _).mono ?_); rintro e w' ⟨rfl, hB⟩; rw [O3.out]; replace HB := hidB HB hB; clear hB)
        | (go_at_call 16; (with_reducible refine (U1.out _).mono ?_); rintro e w' ⟨rfl, hB⟩; replace HB := hidB HB hB; clear hB)
        | (go_at_call 18; (with_reducible refine (U2.out _).mono ?_); rintro e w' ⟨rfl, hB⟩; replace HB := hidB HB hB; clear hB)
        | (go_at_call 11; (with_reducible refine (awake_in _).mono ?_); rintro e w' ⟨rfl, hB⟩; replace HB := hidB HB hB; clear hB))
      go_ret
      exact ⟨rfl, HB.out⟩
    · skip
      have g4 : ((o != -p) : Bool) = false := by rw [g3]; simp
      clear g3
      go_enter Try.func5, Try.ntmps5
      go_wp2_with (first
        | (go_at_call 10; (with_reducible refine (b_same (classR_in a ha _)).mono ?_); rintro e w' ⟨rfl, hB⟩; rw [K1.out]; replace HB := hidB HB hB; clear hB)
        | (go_at_call 10; (with_reducible refine (b_same (classR_in s HS.out _)).mono ?_); rintro e w' ⟨rfl, hB⟩; rw [K2.out]; replace HB := hidB HB hB; clear hB)
        | (go_at_call 10; (with_reducible refine (b_same (classR_in d HD.out _)).mono ?_); rintro e w' ⟨rfl, hB⟩; rw [K3.out]; replace HB := hidB HB hB; clear hB)
        | (go_at_call 14; (with_reducible refine (b_drew (add_in a b _)).mono ?_); rintro e w' ⟨rfl, hB⟩; rw [S1.out]; replace HB := hidB HB hB; clear hB)
        | (go_at_call 14; (with_reducible refine (b_drew (add_in b a _)).mono ?_); rintro e w' ⟨rfl, hB⟩; rw [S2.out]; replace HB := hidB HB hB; clear hB)
        | (go_at_call 14; (with_reducible refine (b_drew (add_in a f _)).mono ?_); rintro e w' ⟨rfl, hB⟩; rw [D1.out]; replace HB := hidB HB hB; clear hB)
        | (go_at_call 16; (with_reducible refine (b_drew (mul_in a b _)).mono ?_); rintro e w' ⟨rfl, hB⟩; rw [M1.out]; replace HB := hidB HB hB; clear hB)
        | (go_at_call 16; (with_reducible refine (b_drew (mul_in b a _)).mono ?_); rintro e w' ⟨rfl, hB⟩; rw [M2.out]; replace HB := hidB HB hB; clear hB)
        | (go_at_call 20; (with_reducible refine (order_in a b _).mono ?_); rintro e w' ⟨rfl, hB⟩; rw [O1.out]; replace HB := hidB HB hB; clear hB)
        | (go_at_call 20; (with_reducible refine (order_in b a _).mono ?_); rintro e w' ⟨rfl, hB⟩; rw [O2.out]; replace HB := hidB HB hB; clear hB)
        | (go_at_call 20; (with_reducible refine (order_in a a _).mono ?_); rintro e w' ⟨rfl, hB⟩; rw [O3.out]; replace HB := hidB HB hB; clear hB)
        | (go_at_call 16; (with_reducible refine (U1.out _).mono ?_); rintro e w' ⟨rfl, hB⟩; replace HB := hidB HB hB; clear hB)
        | (go_at_call 18; (with_reducible refine (U2.out _).mono ?_); rintro e w' ⟨rfl, hB⟩; replace HB := hidB HB hB; clear hB)
        | (go_at_call 11; (with_reducible refine (awake_in _).mono ?_); rintro e w' ⟨rfl, hB⟩; replace HB := hidB HB hB; clear hB))
      go_ret
      exact ⟨rfl, HB.out⟩
theorem orders_row (a b : Int) (wa : (Lit.int .u64 a).wf = true) (wb : (Lit.int .u64 b).wf = true) (w : World) :
    Calls Try.prog 5 #[.int .u64 a, .int .u64 b] w fun e w' => e = .returned (.bool true) ∧ Below w.heap.size w w' := by
  obtain ⟨a, rfl, ha⟩ := nat_of_u64 wa
  obtain ⟨b, rfl, hb⟩ := nat_of_u64 wb
  have hcm : -1 ≤ cmpR b a ∧ cmpR b a ≤ 2 := by unfold cmpR; split <;> first | omega | (split <;> first | omega | (split <;> omega))
  refine orders_core a b _ _ _ _ ha (opR_add_lt a b) (opR_add_lt a (flipR a)) rfl rfl (opR_comm_add a b) rfl (opR_comm_mul a b) rfl _ _ _ rfl rfl rfl _ _ _ rfl rfl rfl (by omega) (by omega) ?_ ?_ ?_ ?_ w
  · cases hor : (nanB a || nanB b)
    · right
      have := cmp_anti a b hor
      have hne : cmpR a b ≠ 2 := by
        unfold cmpR; rw [hor]; simp only [Bool.false_eq_true, if_false]
        split <;> first | omega | (split <;> omega)
      exact ⟨by rw [beq_eq_false_iff_ne]; exact hne, by rw [bne_iff_ne]; exact hne, this⟩
    · left
      exact ⟨cmp_nan a b hor, cmp_nan b a (by rw [Bool.or_comm]; exact hor)⟩
  · intro h4 w
    have na : nanB a = false := by have := h4_any a; rw [beq_eq_false_iff_ne.2 h4] at this; exact this.symm
    have h := b_drew (mul_in a 4607182418800017408 w)
    rw [mul_one' a ha na] at h
    exact lit2 a 4607182418800017408 rfl rfl h
  · intro h4 w
    have na : nanB a = false := by have := h4_any a; rw [beq_eq_false_iff_ne.2 h4] at this; exact this.symm
    have h := b_drew (div_in a 4607182418800017408 w)
    rw [div_one' a ha na] at h
    exact lit2 a 4607182418800017408 rfl rfl h
  · cases na : nanB a
    · right
      have h4 := h4_any a
      have h3 := h3_any a
      rw [na] at h4 h3
      have hl := less_self a ha na
      cases ia : infB a
      · right
        rw [ia] at h3 hl
        refine ⟨h4, h3, ?_, hl⟩
        rw [bne, h3]; rfl
      · left
        rw [ia] at h3 hl
        have h3' : clsR a = 3 := beq_iff_eq.1 h3
        refine ⟨h3', ?_⟩
        rw [hl]; exact cls_quiet
    · left
      have h4 := h4_any a
      rw [na] at h4
      refine ⟨beq_iff_eq.1 h4, ?_, cmp_nan a a (by rw [na]; rfl)⟩
      rw [add_nan a b (by rw [na]; rfl)]
      exact cls_quiet
end Go.Proofs.Ytckdbgejpagkpaa
