/-
  Numbers with a point, in plain Lean: signs turned, by 1, less itself.
-/
import Derived.Test.YtckdbgejpagkpaaFRealV
namespace Go.Proofs.Ytckdbgejpagkpaa
open Go Go.RowKit
set_option linter.unusedVariables false
set_option linter.unusedSimpArgs false

/-- A word with its sign turned. -/
def flipR (a : Nat) : Nat := Ieee.double.word (!sgn a) (rung a)
theorem flip_lt (a : Nat) : flipR a < 18446744073709551616 := word_lt' _ _ (rung_lt a)
theorem rung_flip (a : Nat) : rung (flipR a) = rung a := word_rung _ _ (rung_lt a)
theorem sgn_flip (a : Nat) : sgn (flipR a) = !sgn a := sgn_word _ _ (rung_lt a)
theorem nanB_flip (a : Nat) : nanB (flipR a) = nanB a := by unfold nanB; rw [rung_flip]
theorem flip_word (s : Bool) (r : Nat) (h : r < 9223372036854775808) : flipR (Ieee.double.word s r) = Ieee.double.word (!s) r := by
  unfold flipR; rw [sgn_word s r h, word_rung s r h]
theorem flip_flip (a : Nat) (h : a < 18446744073709551616) : flipR (flipR a) = a := by
  have := flip_word (!sgn a) (rung a) (rung_lt a)
  rw [Bool.not_not, word_is h] at this
  exact this
theorem xor_flip (a : Nat) (h : a < 18446744073709551616) : bits BinOp.xor .u64 (a : Int) 9223372036854775808 = ((flipR a : Nat) : Int) := by
  have e := u64_xor_nat a 9223372036854775808 h (by omega)
  rw [show ((9223372036854775808 : Nat) : Int) = 9223372036854775808 from rfl] at e
  rw [e]
  congr 1
  have hs : Ieee.double.signWeight = 9223372036854775808 := by decide
  have m : (a ^^^ 9223372036854775808) % 2 ^ 63 = a % 2 ^ 63 := by
    rw [Nat.xor_mod_two_pow, show 9223372036854775808 % 2 ^ 63 = 0 by decide, Nat.xor_zero]
  have d : (a ^^^ 9223372036854775808) / 2 ^ 63 = a / 2 ^ 63 ^^^ 1 := by
    rw [Nat.xor_div_two_pow]
  have p : (2 : Nat) ^ 63 = 9223372036854775808 := rfl
  rw [p] at m d
  have dm := Nat.div_add_mod (a ^^^ 9223372036854775808) 9223372036854775808
  rw [m, d] at dm
  unfold flipR Ieee.Format.word sgn rung
  rw [hs]
  have hlt : a / 9223372036854775808 < 2 := by omega
  have hc : a / 9223372036854775808 = 0 ∨ a / 9223372036854775808 = 1 := by omega
  rcases hc with c | c
  · rw [c] at dm ⊢
    rw [show (0 : Nat) ^^^ 1 = 1 by decide] at dm
    simp only [Nat.zero_mod]
    rw [← dm]; simp
  · rw [c] at dm ⊢
    rw [show (1 : Nat) ^^^ 1 = 0 by decide] at dm
    rw [← dm]; simp
theorem rank_flip (a : Nat) : rank (flipR a) = -rank a := by
  unfold rank
  rw [sgn_flip, rung_flip]
  cases sgn a <;> simp
theorem cmp_flip (a b : Nat) : cmpR (flipR a) (flipR b) = cmpR b a := by
  unfold cmpR
  rw [nanB_flip, nanB_flip, rank_flip, rank_flip, Bool.or_comm (nanB b)]
  cases (nanB a || nanB b)
  · simp only [Bool.false_eq_true, if_false]
    by_cases c : rank b < rank a
    · rw [if_pos (show -rank a < -rank b by omega), if_pos c]
    · rw [if_neg (show ¬ -rank a < -rank b by omega), if_neg c]
      by_cases d : rank a < rank b
      · rw [if_pos (show -rank b < -rank a by omega), if_pos d]
      · rw [if_neg (show ¬ -rank b < -rank a by omega), if_neg d]
  · rfl
theorem read_flip (a : Nat) (h : a < 18446744073709551616) (hn : nanB a = false) : Ieee.double.read (flipR a) = (Ieee.double.read a).opposite := by
  have hle := of_decide_eq_false hn
  by_cases c : rung a = 9218868437227405312
  · rw [read_inf c, read_inf (by rw [rung_flip]; exact c), sgn_flip]; rfl
  · rw [read_number (a := a) (by omega), read_number (a := flipR a) (by rw [rung_flip]; omega), sgn_flip, rung_flip]; rfl
theorem nearest_flip (s : Bool) (m : Nat) (p : Int) : Ieee.double.nearest (!s) m p = flipR (Ieee.double.nearest s m p) := by
  have hi : Ieee.double.infRung = 9218868437227405312 := by decide
  unfold Ieee.Format.nearest
  split
  · rw [flip_word _ _ (by omega)]
  · dsimp only
    rw [flip_word _ _ (by rw [hi]; omega)]
    rfl
theorem write_flip (d : Ieee.Datum) (h : d.isNaN = false) : Ieee.double.write d.opposite = flipR (Ieee.double.write d) := by
  cases d with
  | nan s f => simp [Ieee.Datum.isNaN] at h
  | infinity s =>
    show Ieee.double.word (!s) Ieee.double.infRung = flipR (Ieee.double.word s Ieee.double.infRung)
    rw [flip_word _ _ (by decide)]
  | number s m p => exact nearest_flip s m p
theorem sum_nan (x y : Ieee.Datum) (d : Ieee.Datum) (h : x.sum y = some d) : d.isNaN = false := by
  cases x <;> cases y <;> simp [Ieee.Datum.sum] at h
  · subst h; rfl
  · subst h; rfl
  · subst h; rfl
  · obtain ⟨_, h⟩ := h; subst h; rfl
theorem opR_add (a b : Nat) : opR .add a b = match (Ieee.double.read a).sum (Ieee.double.read b) with | some d => Ieee.double.write d | none => 9221120237041090560 := by
  unfold opR floatBits
  show (match Ieee.double.add a b with | some r => canon r | none => _) = _
  unfold Ieee.Format.add
  cases h : (Ieee.double.read a).sum (Ieee.double.read b) with
  | none => rfl
  | some d =>
    show canon (Ieee.double.write d) = _
    exact canon_of (write_nanB d (sum_nan _ _ _ h))
theorem product_nan (x y : Ieee.Datum) (d : Ieee.Datum) (h : x.product y = some d) : d.isNaN = false := by
  cases x <;> cases y <;> simp [Ieee.Datum.product] at h
  · subst h; rfl
  · obtain ⟨_, h⟩ := h; subst h; rfl
  · obtain ⟨_, h⟩ := h; subst h; rfl
  · subst h; rfl
theorem opR_mul (a b : Nat) : opR .mul a b = match (Ieee.double.read a).product (Ieee.double.read b) with | some d => Ieee.double.write d | none => 9221120237041090560 := by
  unfold opR floatBits
  show (match Ieee.double.mul a b with | some r => canon r | none => _) = _
  unfold Ieee.Format.mul
  cases h : (Ieee.double.read a).product (Ieee.double.read b) with
  | none => rfl
  | some d =>
    show canon (Ieee.double.write d) = _
    exact canon_of (write_nanB d (product_nan _ _ _ h))
theorem read_isN {a : Nat} (h : nanB a = true) : ∃ s f, Ieee.double.read a = .nan s f := by
  have := read_nan (of_decide_eq_true h)
  cases e : Ieee.double.read a with
  | nan s f => exact ⟨s, f, rfl⟩
  | infinity s => rw [e] at this; simp [Ieee.Datum.isNaN] at this
  | number s m p => rw [e] at this; simp [Ieee.Datum.isNaN] at this
theorem add_nan (a b : Nat) (h : (nanB a || nanB b) = true) : opR .add a b = 9221120237041090560 := by
  rw [opR_add]
  rw [Bool.or_eq_true] at h
  rcases h with h | h
  · obtain ⟨s, f, e⟩ := read_isN h
    rw [e]; rfl
  · obtain ⟨s, f, e⟩ := read_isN h
    rw [e]; cases Ieee.double.read a <;> rfl
theorem signed_not (s : Bool) (m u : Nat) : Ieee.signed (!s) m u = -Ieee.signed s m u := by
  unfold Ieee.signed
  cases s <;> simp
/-- The sum of two turned ones. -/
theorem sum_flip (x y : Ieee.Datum) : x.opposite.sum y.opposite = none ∧ x.sum y = none ∨ (∃ d, x.sum y = some d ∧ x.opposite.sum y.opposite = some d.opposite) ∨ (∃ s t p q, x.sum y = some (.number s 0 p) ∧ x.opposite.sum y.opposite = some (.number t 0 q)) := by
  cases x with
  | nan s f => left; cases y <;> exact ⟨rfl, rfl⟩
  | infinity s =>
    cases y with
    | nan t f => left; exact ⟨rfl, rfl⟩
    | infinity t =>
      by_cases e : s = t
      · right; left; exact ⟨.infinity s, by simp [Ieee.Datum.sum, e], by simp [Ieee.Datum.sum, Ieee.Datum.opposite, e]⟩
      · left; exact ⟨by simp [Ieee.Datum.sum, Ieee.Datum.opposite, e], by simp [Ieee.Datum.sum, e]⟩
    | number t n j => right; left; exact ⟨.infinity s, rfl, rfl⟩
  | number s m i =>
    cases y with
    | nan t f => left; exact ⟨rfl, rfl⟩
    | infinity t => right; left; exact ⟨.infinity t, rfl, rfl⟩
    | number t n j =>
      obtain ⟨T, hT⟩ : ∃ T, T = Ieee.signed s m (i - min i j).toNat + Ieee.signed t n (j - min i j).toNat := ⟨_, rfl⟩
      have h1 : (Ieee.Datum.number s m i).sum (.number t n j) = some (.number (if T = 0 then s && t else decide (T < 0)) T.natAbs (min i j)) := by rw [hT]; rfl
      have h2 : (Ieee.Datum.number s m i).opposite.sum (Ieee.Datum.number t n j).opposite = some (.number (if -T = 0 then !s && !t else decide (-T < 0)) (-T).natAbs (min i j)) := by
        have : -T = Ieee.signed (!s) m (i - min i j).toNat + Ieee.signed (!t) n (j - min i j).toNat := by rw [signed_not, signed_not, hT]; omega
        rw [this]; rfl
      by_cases z : T = 0
      · right; right
        rw [z] at h1 h2
        exact ⟨_, _, _, _, h1, h2⟩
      · right; left
        refine ⟨_, h1, ?_⟩
        rw [h2, if_neg z, if_neg (by omega), Int.natAbs_neg]
        show _ = some (Ieee.Datum.number (!decide (T < 0)) _ _)
        have : decide (-T < 0) = !decide (T < 0) := by rw [Bool.eq_iff_iff]; simp; omega
        rw [this]
theorem zero_word (s : Bool) (p : Int) : Ieee.double.write (.number s 0 p) = Ieee.double.word s 0 := by
  show Ieee.double.nearest s 0 p = _
  unfold Ieee.Format.nearest; rw [if_pos rfl]
theorem cls_zero (s : Bool) : clsR (Ieee.double.word s 0) = 0 := by cases s <;> decide
theorem cls_quiet : clsR 9221120237041090560 = 4 := by decide
theorem add_flip (a b : Nat) (ha : a < 18446744073709551616) (hb : b < 18446744073709551616) (h : (nanB a || nanB b) = false) :
    (clsR (opR .add a b) = 4 ∧ clsR (opR .add (flipR a) (flipR b)) = 4) ∨ (opR .add (flipR a) (flipR b) = flipR (opR .add a b) ∧ clsR (opR .add a b) ≠ 4 ∧ clsR (opR .add (flipR a) (flipR b)) = clsR (opR .add a b)) ∨ (clsR (opR .add a b) = 0 ∧ clsR (opR .add (flipR a) (flipR b)) = 0) := by
  have na : nanB a = false := by cases k : nanB a <;> simp_all
  have nb : nanB b = false := by cases k : nanB b <;> simp_all
  rw [opR_add a b, opR_add (flipR a), read_flip a ha na, read_flip b hb nb]
  rcases sum_flip (Ieee.double.read a) (Ieee.double.read b) with ⟨e1, e2⟩ | ⟨d, e1, e2⟩ | ⟨s, t, p, q, e1, e2⟩
  · left; rw [e1, e2]; exact ⟨cls_quiet, cls_quiet⟩
  · right; left; rw [e1, e2]
    have hd := sum_nan _ _ _ e1
    have hw := write_nanB d hd
    refine ⟨write_flip d hd, ?_, ?_⟩
    · intro k
      have := h4_any (Ieee.double.write d)
      rw [hw, k] at this
      exact absurd this (by decide)
    · show clsR (Ieee.double.write d.opposite) = clsR (Ieee.double.write d)
      rw [write_flip d hd]
      unfold clsR infB
      rw [nanB_flip, rung_flip]
  · right; right; rw [e1, e2]
    show clsR (Ieee.double.write _) = 0 ∧ clsR (Ieee.double.write _) = 0
    rw [zero_word, zero_word]
    exact ⟨cls_zero _, cls_zero _⟩
theorem product_flip (x y : Ieee.Datum) : x.opposite.product y.opposite = x.product y := by
  cases x <;> cases y <;> simp [Ieee.Datum.product, Ieee.Datum.opposite]
theorem mul_flip (a b : Nat) (ha : a < 18446744073709551616) (hb : b < 18446744073709551616) (na : nanB a = false) (nb : nanB b = false) : opR .mul (flipR a) (flipR b) = opR .mul a b := by
  rw [opR_mul, opR_mul, read_flip a ha na, read_flip b hb nb, product_flip]
theorem flip_inj {a b : Nat} (ha : a < 18446744073709551616) (hb : b < 18446744073709551616) : flipR a = flipR b ↔ a = b := by
  constructor
  · intro h; rw [← flip_flip a ha, ← flip_flip b hb, h]
  · intro h; rw [h]
theorem pick_flip (a b : Nat) (ha : a < 18446744073709551616) (hb : b < 18446744073709551616) (na : nanB a = false) (nb : nanB b = false) : pickR (flipR a) (flipR b) true = flipR (pickR a b false) := by
  have hanti := cmp_anti a b (by rw [na, nb]; rfl)
  unfold pickR
  rw [nanB_flip, nanB_flip, na, nb, cmp_flip, hanti, sgn_flip]
  have hfi : (flipR a = flipR b) = (a = b) := by rw [eq_iff_iff]; exact flip_inj ha hb
  simp only [Bool.false_eq_true, if_false, if_true, hfi]
  rcases cmp_ways a b na nb with e | e | e
  · rw [e]
    by_cases hab : a = b
    · simp [hab]
    · cases sgn a <;> simp [hab]
  · rw [e]; simp
  · rw [e]; simp
theorem opR_lt (op : BinOp) (a b : Nat) (h : floatBits op .f64 a b = none ∨ ∃ r, floatBits op .f64 a b = some r ∧ r < 18446744073709551616) : opR op a b < 18446744073709551616 := by
  unfold opR
  rcases h with h | ⟨r, h, hr⟩
  · rw [h]; decide
  · rw [h]
    show canon r < _
    unfold canon
    split
    · omega
    · exact hr
theorem opR_add_lt (a b : Nat) : opR .add a b < 18446744073709551616 := by
  rw [opR_add]
  split
  · exact write_lt' _
  · omega
theorem opR_mul_lt (a b : Nat) : opR .mul a b < 18446744073709551616 := by
  rw [opR_mul]
  split
  · exact write_lt' _
  · omega
set_option maxRecDepth 10000 in
theorem signs_core (a b s t m f g : Nat) (ha : a < 18446744073709551616) (hb : b < 18446744073709551616) (hs : s < 18446744073709551616) (ht : t < 18446744073709551616)
    (hf : flipR a = f) (hg : flipR b = g) (hf2 : f < 18446744073709551616) (hg2 : g < 18446744073709551616)
    (s1 : opR .add a b = s) (t1 : opR .add f g = t) (m1 : opR .mul a b = m) (m2 : opR .mul f g = m) (p q : Nat) (p1 : pickR a b false = p) (q1 : pickR f g true = q) (hq : flipR p = q) (hp : p < 18446744073709551616)
    (cs ct : Int) (s2 : clsR s = cs) (t2 : clsR t = ct) (x y : Bool) (hx : ((clsR a == 4) : Bool) = x) (hy : ((clsR b == 4) : Bool) = y)
    (c1 : (x || y) = true → s = t)
    (c2 : (x || y) = false → (cs = 4 ∧ ct = 4) ∨ (cs = 0 ∧ ct = 0) ∨ (flipR s = t ∧ ((cs == 4) : Bool) = false ∧ ((cs == 0) : Bool) = false ∧ ((cs != 0) : Bool) = true)) (w : World) :
    Calls Try.prog 8 #[.int .u64 a, .int .u64 b] w fun e w' => e = .returned (.bool true) ∧ Below w.heap.size w w' := by
  have HB : Hid (Below w.heap.size w w) := Lib.hid (Below.refl _ _)
  have x1 := xor_flip a ha
  have x2 := xor_flip b hb
  have x3 := xor_flip p hp
  have x4 := xor_flip s hs
  rw [hf] at x1
  rw [hg] at x2
  rw [hq] at x3
  have S1 := Lib.hid s1; have T1 := Lib.hid t1; have S2 := Lib.hid s2; have T2 := Lib.hid t2; have M1 := Lib.hid m1; have M2 := Lib.hid m2; have P1 := Lib.hid p1; have Q1 := Lib.hid q1
  clear s1 t1 s2 t2 m1 m2 p1 q1 hf hg hq
  have HS := Lib.hid hs; have HT := Lib.hid ht; have HF := Lib.hid hf2; have HG := Lib.hid hg2; have HP := Lib.hid hp
  clear hs ht hf2 hg2 hp
  cases x
  · cases y
    · have h := c2 rfl
      clear c1 c2
      rcases h with ⟨rfl, rfl⟩ | ⟨rfl, rfl⟩ | ⟨h1, h2, h3, h4⟩
      · clear x4
        go_enter Try.func8, Try.ntmps8
        go_wp2_with (first
          | (go_at_call 14; (with_reducible refine (b_drew (add_in a b _)).mono ?_); rintro e w' ⟨rfl, hB⟩; rw [S1.out]; replace HB := hidB HB hB; clear hB)
          | (go_at_call 14; (with_reducible refine (b_drew (add_in f g _)).mono ?_); rintro e w' ⟨rfl, hB⟩; rw [T1.out]; replace HB := hidB HB hB; clear hB)
          | (go_at_call 10; (with_reducible refine (b_same (classR_in a ha _)).mono ?_); rintro e w' ⟨rfl, hB⟩; replace HB := hidB HB hB; clear hB)
          | (go_at_call 10; (with_reducible refine (b_same (classR_in b hb _)).mono ?_); rintro e w' ⟨rfl, hB⟩; replace HB := hidB HB hB; clear hB)
          | (go_at_call 10; (with_reducible refine (b_same (classR_in s HS.out _)).mono ?_); rintro e w' ⟨rfl, hB⟩; rw [S2.out]; replace HB := hidB HB hB; clear hB)
          | (go_at_call 10; (with_reducible refine (b_same (classR_in t HT.out _)).mono ?_); rintro e w' ⟨rfl, hB⟩; rw [T2.out]; replace HB := hidB HB hB; clear hB)
          | (go_at_call 16; (with_reducible refine (b_drew (mul_in a b _)).mono ?_); rintro e w' ⟨rfl, hB⟩; rw [M1.out]; replace HB := hidB HB hB; clear hB)
          | (go_at_call 16; (with_reducible refine (b_drew (mul_in f g _)).mono ?_); rintro e w' ⟨rfl, hB⟩; rw [M2.out]; replace HB := hidB HB hB; clear hB)
          | (go_at_call 23; (with_reducible refine (min_in f g HF.out HG.out _).mono ?_); rintro e w' ⟨rfl, hB⟩; rw [Q1.out]; replace HB := hidB HB hB; clear hB)
          | (go_at_call 25; (with_reducible refine (max_in a b ha hb _).mono ?_); rintro e w' ⟨rfl, hB⟩; rw [P1.out]; replace HB := hidB HB hB; clear hB)
          | (go_at_call 11; (with_reducible refine (awake_in _).mono ?_); rintro e w' ⟨rfl, hB⟩; replace HB := hidB HB hB; clear hB))
        go_ret
        exact ⟨rfl, HB.out⟩
      · clear x4
        go_enter Try.func8, Try.ntmps8
        go_wp2_with (first
          | (go_at_call 14; (with_reducible refine (b_drew (add_in a b _)).mono ?_); rintro e w' ⟨rfl, hB⟩; rw [S1.out]; replace HB := hidB HB hB; clear hB)
          | (go_at_call 14; (with_reducible refine (b_drew (add_in f g _)).mono ?_); rintro e w' ⟨rfl, hB⟩; rw [T1.out]; replace HB := hidB HB hB; clear hB)
          | (go_at_call 10; (with_reducible refine (b_same (classR_in a ha _)).mono ?_); rintro e w' ⟨rfl, hB⟩; replace HB := hidB HB hB; clear hB)
          | (go_at_call 10; (with_reducible refine (b_same (classR_in b hb _)).mono ?_); rintro e w' ⟨rfl, hB⟩; replace HB := hidB HB hB; clear hB)
          | (go_at_call 10; (with_reducible refine (b_same (classR_in s HS.out _)).mono ?_); rintro e w' ⟨rfl, hB⟩; rw [S2.out]; replace HB := hidB HB hB; clear hB)
          | (go_at_call 10; (with_reducible refine (b_same (classR_in t HT.out _)).mono ?_); rintro e w' ⟨rfl, hB⟩; rw [T2.out]; replace HB := hidB HB hB; clear hB)
          | (go_at_call 16; (with_reducible refine (b_drew (mul_in a b _)).mono ?_); rintro e w' ⟨rfl, hB⟩; rw [M1.out]; replace HB := hidB HB hB; clear hB)
          | (go_at_call 16; (with_reducible refine (b_drew (mul_in f g _)).mono ?_); rintro e w' ⟨rfl, hB⟩; rw [M2.out]; replace HB := hidB HB hB; clear hB)
          | (go_at_call 23; (with_reducible refine (min_in f g HF.out HG.out _).mono ?_); rintro e w' ⟨rfl, hB⟩; rw [Q1.out]; replace HB := hidB HB hB; clear hB)
          | (go_at_call 25; (with_reducible refine (max_in a b ha hb _).mono ?_); rintro e w' ⟨rfl, hB⟩; rw [P1.out]; replace HB := hidB HB hB; clear hB)
          | (go_at_call 11; (with_reducible refine (awake_in _).mono ?_); rintro e w' ⟨rfl, hB⟩; replace HB := hidB HB hB; clear hB))
        go_ret
        exact ⟨rfl, HB.out⟩
      · rw [h1] at x4
        clear h1
        go_enter Try.func8, Try.ntmps8
        go_wp2_with (first
          | (go_at_call 14; (with_reducible refine (b_drew (add_in a b _)).mono ?_); rintro e w' ⟨rfl, hB⟩; rw [S1.out]; replace HB := hidB HB hB; clear hB)
          | (go_at_call 14; (with_reducible refine (b_drew (add_in f g _)).mono ?_); rintro e w' ⟨rfl, hB⟩; rw [T1.out]; replace HB := hidB HB hB; clear hB)
          | (go_at_call 10; (with_reducible refine (b_same (classR_in a ha _)).mono ?_); rintro e w' ⟨rfl, hB⟩; replace HB := hidB HB hB; clear hB)
          | (go_at_call 10; (with_reducible refine (b_same (classR_in b hb _)).mono ?_); rintro e w' ⟨rfl, hB⟩; replace HB := hidB HB hB; clear hB)
          | (go_at_call 10; (with_reducible refine (b_same (classR_in s HS.out _)).mono ?_); rintro e w' ⟨rfl, hB⟩; rw [S2.out]; replace HB := hidB HB hB; clear hB)
          | (go_at_call 10; (with_reducible refine (b_same (classR_in t HT.out _)).mono ?_); rintro e w' ⟨rfl, hB⟩; rw [T2.out]; replace HB := hidB HB hB; clear hB)
          | (go_at_call 16; (with_reducible refine (b_drew (mul_in a b _)).mono ?_); rintro e w' ⟨rfl, hB⟩; rw [M1.out]; replace HB := hidB HB hB; clear hB)
          | (go_at_call 16; (with_reducible refine (b_drew (mul_in f g _)).mono ?_); rintro e w' ⟨rfl, hB⟩; rw [M2.out]; replace HB := hidB HB hB; clear hB)
          | (go_at_call 23; (with_reducible refine (min_in f g HF.out HG.out _).mono ?_); rintro e w' ⟨rfl, hB⟩; rw [Q1.out]; replace HB := hidB HB hB; clear hB)
          | (go_at_call 25; (with_reducible refine (max_in a b ha hb _).mono ?_); rintro e w' ⟨rfl, hB⟩; rw [P1.out]; replace HB := hidB HB hB; clear hB)
          | (go_at_call 11; (with_reducible refine (awake_in _).mono ?_); rintro e w' ⟨rfl, hB⟩; replace HB := hidB HB hB; clear hB))
        go_ret
        exact ⟨rfl, HB.out⟩
    · have h := c1 rfl
      clear c1 c2 x4
      have he : ((s : Int) == (t : Int)) = true := by rw [h]; simp
      clear h
      go_enter Try.func8, Try.ntmps8
      go_wp2_with (first
        | (go_at_call 14; (with_reducible refine (b_drew (add_in a b _)).mono ?_); rintro e w' ⟨rfl, hB⟩; rw [S1.out]; replace HB := hidB HB hB; clear hB)
        | (go_at_call 14; (with_reducible refine (b_drew (add_in f g _)).mono ?_); rintro e w' ⟨rfl, hB⟩; rw [T1.out]; replace HB := hidB HB hB; clear hB)
        | (go_at_call 10; (with_reducible refine (b_same (classR_in a ha _)).mono ?_); rintro e w' ⟨rfl, hB⟩; replace HB := hidB HB hB; clear hB)
        | (go_at_call 10; (with_reducible refine (b_same (classR_in b hb _)).mono ?_); rintro e w' ⟨rfl, hB⟩; replace HB := hidB HB hB; clear hB)
        | (go_at_call 10; (with_reducible refine (b_same (classR_in s HS.out _)).mono ?_); rintro e w' ⟨rfl, hB⟩; rw [S2.out]; replace HB := hidB HB hB; clear hB)
        | (go_at_call 10; (with_reducible refine (b_same (classR_in t HT.out _)).mono ?_); rintro e w' ⟨rfl, hB⟩; rw [T2.out]; replace HB := hidB HB hB; clear hB)
        | (go_at_call 16; (with_reducible refine (b_drew (mul_in a b _)).mono ?_); rintro e w' ⟨rfl, hB⟩; rw [M1.out]; replace HB := hidB HB hB; clear hB)
        | (go_at_call 16; (with_reducible refine (b_drew (mul_in f g _)).mono ?_); rintro e w' ⟨rfl, hB⟩; rw [M2.out]; replace HB := hidB HB hB; clear hB)
        | (go_at_call 23; (with_reducible refine (min_in f g HF.out HG.out _).mono ?_); rintro e w' ⟨rfl, hB⟩; rw [Q1.out]; replace HB := hidB HB hB; clear hB)
        | (go_at_call 25; (with_reducible refine (max_in a b ha hb _).mono ?_); rintro e w' ⟨rfl, hB⟩; rw [P1.out]; replace HB := hidB HB hB; clear hB)
        | (go_at_call 11; (with_reducible refine (awake_in _).mono ?_); rintro e w' ⟨rfl, hB⟩; replace HB := hidB HB hB; clear hB))
      go_ret
      exact ⟨rfl, HB.out⟩
  · have h := c1 rfl
    clear c1 c2 x4
    have he : ((s : Int) == (t : Int)) = true := by rw [h]; simp
    clear h
    go_enter Try.func8, Try.ntmps8
    go_wp2_with (first
      | (go_at_call 14; (with_reducible refine (b_drew (add_in a b _)).mono ?_); rintro e w' ⟨rfl, hB⟩; rw [S1.out]; replace HB := hidB HB hB; clear hB)
      | (go_at_call 14; (with_reducible refine (b_drew (add_in f g _)).mono ?_); rintro e w' ⟨rfl, hB⟩; rw [T1.out]; replace HB := hidB HB hB; clear hB)
      | (go_at_call 10; (with_reducible refine (b_same (classR_in a ha _)).mono ?_); rintro e w' ⟨rfl, hB⟩; replace HB := hidB HB hB; clear hB)
      | (go_at_call 10; (with_reducible refine (b_same (classR_in b hb _)).mono ?_); rintro e w' ⟨rfl, hB⟩; replace HB := hidB HB hB; clear hB)
      | (go_at_call 10; (with_reducible refine (b_same (classR_in s HS.out _)).mono ?_); rintro e w' ⟨rfl, hB⟩; rw [S2.out]; replace HB := hidB HB hB; clear hB)
      | (go_at_call 10; (with_reducible refine (b_same (classR_in t HT.out _)).mono ?_); rintro e w' ⟨rfl, hB⟩; rw [T2.out]; replace HB := hidB HB hB; clear hB)
      | (go_at_call 16; (with_reducible refine (b_drew (mul_in a b _)).mono ?_); rintro e w' ⟨rfl, hB⟩; rw [M1.out]; replace HB := hidB HB hB; clear hB)
      | (go_at_call 16; (with_reducible refine (b_drew (mul_in f g _)).mono ?_); rintro e w' ⟨rfl, hB⟩; rw [M2.out]; replace HB := hidB HB hB; clear hB)
      | (go_at_call 23; (with_reducible refine (min_in f g HF.out HG.out _).mono ?_); rintro e w' ⟨rfl, hB⟩; rw [Q1.out]; replace HB := hidB HB hB; clear hB)
      | (go_at_call 25; (with_reducible refine (max_in a b ha hb _).mono ?_); rintro e w' ⟨rfl, hB⟩; rw [P1.out]; replace HB := hidB HB hB; clear hB)
      | (go_at_call 11; (with_reducible refine (awake_in _).mono ?_); rintro e w' ⟨rfl, hB⟩; replace HB := hidB HB hB; clear hB))
    go_ret
    exact ⟨rfl, HB.out⟩

set_option maxRecDepth 10000 in
theorem signs_nan (a b : Nat) (ha : a < 18446744073709551616) (hb : b < 18446744073709551616) (hor : (nanB a || nanB b) = true) (w : World) :
    Calls Try.prog 8 #[.int .u64 a, .int .u64 b] w fun e w' => e = .returned (.bool true) ∧ Below w.heap.size w w' := by
  have HB : Hid (Below w.heap.size w w) := Lib.hid (Below.refl _ _)
  have x1 := xor_flip a ha
  have x2 := xor_flip b hb
  have s1 := add_nan a b hor
  have t1 := add_nan (flipR a) (flipR b) (by rw [nanB_flip, nanB_flip]; exact hor)
  have h4a := h4_any a
  have h4b := h4_any b
  generalize flipR a = f at *
  generalize flipR b = g at *
  obtain ⟨s, hs⟩ : ∃ s : Nat, s = 9221120237041090560 := ⟨_, rfl⟩
  rw [← hs] at s1 t1
  have S1 := Lib.hid s1; have T1 := Lib.hid t1
  clear s1 t1 hs
  cases na : nanB a
  · have nb : nanB b = true := by rw [na] at hor; simpa using hor
    rw [na] at h4a
    rw [nb] at h4b
    clear hor
    go_enter Try.func8, Try.ntmps8
    go_wp2_with (first
      | (go_at_call 14; (with_reducible refine (b_drew (add_in a b _)).mono ?_); rintro e w' ⟨rfl, hB⟩; rw [S1.out]; replace HB := hidB HB hB; clear hB)
      | (go_at_call 14; (with_reducible refine (b_drew (add_in f g _)).mono ?_); rintro e w' ⟨rfl, hB⟩; rw [T1.out]; replace HB := hidB HB hB; clear hB)
      | (go_at_call 10; (with_reducible refine (b_same (classR_in a ha _)).mono ?_); rintro e w' ⟨rfl, hB⟩; replace HB := hidB HB hB; clear hB)
      | (go_at_call 10; (with_reducible refine (b_same (classR_in b hb _)).mono ?_); rintro e w' ⟨rfl, hB⟩; replace HB := hidB HB hB; clear hB)
      | (go_at_call 11; (with_reducible refine (awake_in _).mono ?_); rintro e w' ⟨rfl, hB⟩; replace HB := hidB HB hB; clear hB))
    go_ret
    exact ⟨rfl, HB.out⟩
  · rw [na] at h4a
    clear hor h4b
    go_enter Try.func8, Try.ntmps8
    go_wp2_with (first
      | (go_at_call 14; (with_reducible refine (b_drew (add_in a b _)).mono ?_); rintro e w' ⟨rfl, hB⟩; rw [S1.out]; replace HB := hidB HB hB; clear hB)
      | (go_at_call 14; (with_reducible refine (b_drew (add_in f g _)).mono ?_); rintro e w' ⟨rfl, hB⟩; rw [T1.out]; replace HB := hidB HB hB; clear hB)
      | (go_at_call 10; (with_reducible refine (b_same (classR_in a ha _)).mono ?_); rintro e w' ⟨rfl, hB⟩; replace HB := hidB HB hB; clear hB)
      | (go_at_call 10; (with_reducible refine (b_same (classR_in b hb _)).mono ?_); rintro e w' ⟨rfl, hB⟩; replace HB := hidB HB hB; clear hB)
      | (go_at_call 11; (with_reducible refine (awake_in _).mono ?_); rintro e w' ⟨rfl, hB⟩; replace HB := hidB HB hB; clear hB))
    go_ret
    exact ⟨rfl, HB.out⟩
theorem signs_row (a b : Int) (wa : (Lit.int .u64 a).wf = true) (wb : (Lit.int .u64 b).wf = true) (w : World) :
    Calls Try.prog 8 #[.int .u64 a, .int .u64 b] w fun e w' => e = .returned (.bool true) ∧ Below w.heap.size w w' := by
  obtain ⟨a, rfl, ha⟩ := nat_of_u64 wa
  obtain ⟨b, rfl, hb⟩ := nat_of_u64 wb
  cases hor : (nanB a || nanB b)
  · have na : nanB a = false := by cases k : nanB a <;> simp_all
    have nb : nanB b = false := by cases k : nanB b <;> simp_all
    refine signs_core a b _ _ _ _ _ ha hb (opR_add_lt a b) (opR_add_lt _ _) rfl rfl (flip_lt a) (flip_lt b) rfl rfl rfl (mul_flip a b ha hb na nb) _ _ rfl rfl (pick_flip a b ha hb na nb).symm (pickR_lt a b false ha hb) _ _ rfl rfl _ _ (h4_any a) (h4_any b) ?_ ?_ w
    · intro h; rw [hor] at h; cases h
    · intro _
      rcases add_flip a b ha hb hor with h | ⟨h1, h2, h3⟩ | h
      · exact .inl h
      · by_cases z : clsR (opR .add a b) = 0
        · right; left; exact ⟨z, h3.trans z⟩
        · right; right
          exact ⟨h1.symm, by rw [beq_eq_false_iff_ne]; exact h2, by rw [beq_eq_false_iff_ne]; exact z, by rw [bne_iff_ne]; exact z⟩
      · exact .inr (.inl h)
  · exact signs_nan a b ha hb hor w
end Go.Proofs.Ytckdbgejpagkpaa
