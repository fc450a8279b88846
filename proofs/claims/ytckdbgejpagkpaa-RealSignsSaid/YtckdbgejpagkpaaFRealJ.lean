/-
  Numbers with a point: whole numbers of 32 bits out of one, walked.
-/
import Derived.Test.YtckdbgejpagkpaaFRealI
namespace Go.Proofs.Ytckdbgejpagkpaa
open Go Go.RowKit
set_option linter.unusedVariables false
set_option linter.unusedSimpArgs false

theorem ge_of {a b : Nat} (ha : nanB a = false) (hb : nanB b = false) : (FloatKind.f64.format.order a b == some .gt || FloatKind.f64.format.order a b == some .eq) = decide (rank b ≤ rank a) := by
  rw [gt_of ha hb, eq_of ha hb, Bool.eq_iff_iff]
  simp only [Bool.or_eq_true, decide_eq_true_eq]
  omega
theorem le_of {a b : Nat} (ha : nanB a = false) (hb : nanB b = false) : (FloatKind.f64.format.order a b == some .lt || FloatKind.f64.format.order a b == some .eq) = decide (rank a ≤ rank b) := by
  rw [lt_of ha hb, eq_of ha hb, Bool.eq_iff_iff]
  simp only [Bool.or_eq_true, decide_eq_true_eq]
  omega
/-- What one is as a whole number of 32 bits. -/
def intV (a : Nat) : Option Int := if nanB a then none else if rank (cutR .zero a) ≤ 4746794007244308480 ∧ -4746794007248502784 ≤ rank (cutR .zero a) then floatToIntVal .f64 (cutR .zero a) .i32 else none
def intE (a : Nat) : Ending := match intV a with | some n => .returned (.tuple #[.int .i32 n, .bool true]) | none => .returned (.tuple #[.int .i32 2147483647, .bool false])

theorem signed0 (s : Bool) (m : Nat) : Ieee.signed s m 0 = if s then -(m : Int) else m := by
  unfold Ieee.signed; simp
theorem sgn_word (s : Bool) (r : Nat) (h : r < 9223372036854775808) : sgn (Ieee.double.word s r) = s := by
  have hs : Ieee.double.signWeight = 9223372036854775808 := by decide
  unfold sgn Ieee.Format.word
  rw [hs]
  cases s
  · simp only [Bool.false_eq_true, if_false]; rw [Nat.div_eq_of_lt h]; rfl
  · simp only [if_true]
    rw [show (9223372036854775808 + r) / 9223372036854775808 = 1 by omega]; rfl
theorem rank_word (s : Bool) (r : Nat) (h : r < 9223372036854775808) : rank (Ieee.double.word s r) = if s then -(r : Int) else r := by
  unfold rank; rw [sgn_word s r h, word_rung s r h]
/-- A number in the middle, as a whole one. -/
theorem toInt_mid (s : Bool) (r d : Nat) (h1 : 4607182418800017408 ≤ r) (hd : r / 4503599627370496 + d = 1075) (hd1 : 1 ≤ d) :
    (Ieee.double.read (Ieee.double.word s r)).toInt .zero = some (if s then -((mant r / 2 ^ d : Nat) : Int) else (mant r / 2 ^ d : Nat)) := by
  have hL : Ieee.double.leastPlace = -1074 := by decide
  have hp : plc r = r / 4503599627370496 - 1 := by unfold plc; rw [if_neg (by omega)]
  have hr : rung (Ieee.double.word s r) = r := word_rung s r (by omega)
  rw [read_number (by rw [hr]; omega), hr, sgn_word s r (by omega)]
  show some (Ieee.signed s (Ieee.Toward.zero.cut s (mant r <<< (Ieee.double.leastPlace + (plc r : Nat)).toNat) (-(Ieee.double.leastPlace + (plc r : Nat))).toNat) 0) = _
  rw [show (Ieee.double.leastPlace + (plc r : Nat)).toNat = 0 by rw [hL, hp]; omega, show (-(Ieee.double.leastPlace + (plc r : Nat))).toNat = d by rw [hL, hp]; omega, Nat.shiftLeft_zero,
    cut_is .zero _ _ d (by rw [log_mant (by omega)]; omega), signed0]
  rfl
theorem toInt_nought (s : Bool) : (Ieee.double.read (Ieee.double.word s 0)).toInt .zero = some 0 := by
  cases s <;> decide +kernel
/-- Where the cut number's word lies, and what whole number it is. -/
theorem int_ways (a : Nat) (h : a < 18446744073709551616) (hn : nanB a = false) :
    (∃ n, floatToIntVal .f64 (cutR .zero a) .i32 = some n ∧ rank (cutR .zero a) ≤ 4746794007244308480 ∧ -4746794007248502784 ≤ rank (cutR .zero a)) ∨
    (¬ (rank (cutR .zero a) ≤ 4746794007244308480 ∧ -4746794007248502784 ≤ rank (cutR .zero a)) ∧ (4746794007248502784 ≤ rank (cutR .zero a) ∨ rank (cutR .zero a) < -4746794007248502784)) := by
  have hle := of_decide_eq_false hn
  have fin : ∀ (c : Nat) (n : Int), (Ieee.double.read c).toInt .zero = some n → -2147483648 ≤ n → n ≤ 2147483647 → floatToIntVal .f64 c .i32 = some n := by
    intro c n e h1 h2
    unfold floatToIntVal
    have : (FloatKind.f64.decode c).toInt .zero = some n := e
    rw [this]
    have i1 : IntKind.i32.min = -2147483648 := by decide
    have i2 : IntKind.i32.max = 2147483647 := by decide
    simp only [i1, i2]
    rw [if_pos ⟨h1, h2⟩]
  by_cases hbig : 4841369599423283200 ≤ rung a
  · right
    have e : cutR .zero a = a := by
      by_cases hi : rung a = 9218868437227405312
      · have hinf : Ieee.double.infRung = 9218868437227405312 := by decide
        rw [cutR, read_inf hi]
        show Ieee.double.word (sgn a) Ieee.double.infRung = a
        rw [hinf, ← hi, word_is h]
      · rw [cutR, round_big .zero h hbig (by omega)]
    rw [e]
    have hl := rung_lt a
    unfold rank
    split <;> omega
  · by_cases hsm : rung a < 4607182418800017408
    · left
      have e : cutR .zero a = Ieee.double.word (sgn a) 0 := by rw [cutR, round_small _ hsm]; rfl
      rw [e]
      have hr := rank_word (sgn a) 0 (by omega)
      refine ⟨0, fin _ _ (toInt_nought _) (by omega) (by omega), ?_, ?_⟩ <;> (rw [hr]; split <;> omega)
    · obtain ⟨d, hd⟩ : ∃ d, d = 1075 - rung a / 4503599627370496 := ⟨_, rfl⟩
      have hd0 : rung a / 4503599627370496 + d = 1075 := by omega
      have hd1 : 1 ≤ d := by omega
      obtain ⟨L, q, n, m, g, hL, hL1, hL2, hq, hqL, hqz, hn', hnL, hm, hmn, hg, hmq, hodd⟩ := mid_facts (rung a) d (by omega) hd0 hd1
      have e : cutR .zero a = Ieee.double.word (sgn a) n := by
        rw [cutR, round_mid .zero (d := d) (by omega) hd0 hd1, ← hL, ← hq]
        show Ieee.double.word (sgn a) (rung a - q + (moreB .zero (sgn a) L (mant (rung a) % L) (mant (rung a) / L)).toNat * L) = _
        rw [show moreB .zero (sgn a) L (mant (rung a) % L) (mant (rung a) / L) = false from rfl]
        rw [show rung a - q = n by omega]; simp
      have hm0 : mant (rung a) = 4503599627370496 + rung a % 4503599627370496 := by unfold mant; rw [if_neg (by omega)]
      -- the cut number keeps its binade
      obtain ⟨k, hk⟩ : ∃ k, k = 52 - d := ⟨_, rfl⟩
      have hB : (4503599627370496 : Nat) = 2 ^ k * L := by rw [hL, ← Nat.pow_add, show k + d = 52 by omega]
      have hq2 : q = rung a % 4503599627370496 % L := by
        rw [hq, hB, Nat.mod_mul_left_mod]
      have hq3 : q ≤ rung a % 4503599627370496 := by rw [hq2]; exact Nat.mod_le _ _
      have hnE : n / 4503599627370496 = rung a / 4503599627370496 := by omega
      have hnd : n / 4503599627370496 + d = 1075 := by omega
      have hn1 : 4607182418800017408 ≤ n := by omega
      have hti := toInt_mid (sgn a) n d hn1 hnd hd1
      have hrk := rank_word (sgn a) n (by omega)
      rw [e]
      have hmn0 : mant n = 4503599627370496 + n % 4503599627370496 := by unfold mant; rw [if_neg (by omega)]
      rw [← hL] at hti
      obtain ⟨N, hN⟩ : ∃ N, N = mant n / L := ⟨_, rfl⟩
      rw [← hN] at hti
      have hNm : L * N + mant n % L = mant n := by rw [hN]; exact Nat.div_add_mod _ _
      have hpL : 0 < L := by omega
      by_cases c1 : rung a / 4503599627370496 ≤ 1053
      · left
        have hNlt : N < 2147483648 := by
          rw [hN, Nat.div_lt_iff_lt_mul hpL]
          have : 2 ^ 22 ≤ L := by rw [hL]; exact Nat.pow_le_pow_right (by omega) (by omega)
          have e22 : (2 : Nat) ^ 22 = 4194304 := rfl
          rw [hmn0]
          have : 2147483648 * 4194304 ≤ 2147483648 * L := Nat.mul_le_mul_left _ (by omega)
          omega
        refine ⟨_, fin _ _ hti (by split <;> omega) (by split <;> omega), ?_, ?_⟩
        · rw [hrk]
          by_cases c2 : rung a / 4503599627370496 = 1053
          · have hd22 : d = 22 := by omega
            have hL22 : L = 4194304 := by rw [hL, hd22]
            rw [hL22] at hq
            split <;> omega
          · split <;> omega
        · rw [hrk]; split <;> omega
      · by_cases c2 : rung a / 4503599627370496 = 1054
        · have hd21 : d = 21 := by omega
          have hL21 : L = 2097152 := by rw [hL, hd21]
          cases hs : sgn a
          · right
            rw [hs] at hrk
            simp only [Bool.false_eq_true, if_false] at hrk
            rw [hrk]; omega
          · rw [hs] at hrk hti
            simp only [if_true] at hrk hti
            by_cases c3 : n = 4746794007248502784
            · left
              have hN2 : N = 2147483648 := by rw [hN, hmn0, c3, hL21]
              exact ⟨_, fin _ _ hti (by omega) (by omega), by rw [hrk]; omega, by rw [hrk]; omega⟩
            · right
              rw [hrk]; omega
        · right
          rw [hrk]; split <;> omega
set_option maxRecDepth 10000 in
theorem int_in (a : Nat) (h : a < 18446744073709551616) (w : World) :
    Calls Try.prog 21 #[.int .u64 a] w fun e w' => e = intE a ∧ ∃ n, w' = w.drewN n := by
  cases hn : nanB a
  · have hcn := cutR_nanB hn .zero
    have hcc : ∀ r, canon r = cutC .zero a → r = cutR .zero a := by
      intro r hr
      unfold cutC at hr
      rw [hn] at hr
      have hr' : canon r = cutR .zero a := hr
      cases hb : nanB r
      · rw [canon_of hb] at hr'; exact hr'
      · exfalso
        have : canon r = 9221120237041090560 := by unfold canon; rw [hb]; rfl
        rw [this] at hr'
        rw [← hr'] at hcn
        revert hcn; decide
    have g1 := ge_of (b := 13970166044103278592) hcn (by decide)
    have g2 := le_of (b := 4746794007244308480) hcn (by decide)
    rw [show rank 13970166044103278592 = -4746794007248502784 by decide] at g1
    rw [show rank 4746794007244308480 = 4746794007244308480 by decide] at g2
    rcases int_ways a h hn with ⟨n, hv, k1, k2⟩ | ⟨k1, k2⟩
    · have hE : intE a = .returned (.tuple #[.int .i32 n, .bool true]) := by
        have : intV a = some n := by unfold intV; rw [hn]; simp only [Bool.false_eq_true, if_false]; rw [if_pos ⟨k1, k2⟩, hv]
        unfold intE; rw [this]
      rw [decide_eq_true k2] at g1
      rw [decide_eq_true k1] at g2
      have hcv := fun w => run_convert_float_int (P := Try.prog) w 36 21 .f64 .i32 _ n (by kernel_rfl) (by kernel_rfl) hv
      clear k1 k2 hv
      generalize cutR .zero a = c at *
      have HE := Lib.hid hE; clear hE
      have HC := Lib.hid hcc; clear hcc hcn
      go_enter Try.func21, Try.ntmps21
      go_wp2_with (first
        | (go_at_call 31; refine (point_in _ _).mono ?_; rintro e w' ⟨rfl, rfl⟩)
        | (go_at_call 32; refine (trunc_in _ _).mono ?_; rintro e w' ⟨r, n, rfl, rfl, hc⟩; obtain rfl := HC.out _ hc; clear hc))
      go_ret2
      exact ⟨HE.out.symm, _, rfl⟩
    · have hE : intE a = .returned (.tuple #[.int .i32 2147483647, .bool false]) := by
        have : intV a = none := by unfold intV; rw [hn]; simp only [Bool.false_eq_true, if_false]; rw [if_neg k1]
        unfold intE; rw [this]
      by_cases k3 : -4746794007248502784 ≤ rank (cutR .zero a)
      · rw [decide_eq_true k3] at g1
        rw [decide_eq_false (by omega)] at g2
        clear k1 k2 k3
        generalize cutR .zero a = c at *
        have HE := Lib.hid hE; clear hE
        have HC := Lib.hid hcc; clear hcc hcn
        go_enter Try.func21, Try.ntmps21
        go_wp2_with (first
          | (go_at_call 31; refine (point_in _ _).mono ?_; rintro e w' ⟨rfl, rfl⟩)
          | (go_at_call 32; refine (trunc_in _ _).mono ?_; rintro e w' ⟨r, n, rfl, rfl, hc⟩; obtain rfl := HC.out _ hc; clear hc))
        go_ret2
        exact ⟨HE.out.symm, _, rfl⟩
      · rw [decide_eq_false k3] at g1
        clear k1 k2 k3 g2
        generalize cutR .zero a = c at *
        have HE := Lib.hid hE; clear hE
        have HC := Lib.hid hcc; clear hcc hcn
        go_enter Try.func21, Try.ntmps21
        go_wp2_with (first
          | (go_at_call 31; refine (point_in _ _).mono ?_; rintro e w' ⟨rfl, rfl⟩)
          | (go_at_call 32; refine (trunc_in _ _).mono ?_; rintro e w' ⟨r, n, rfl, rfl, hc⟩; obtain rfl := HC.out _ hc; clear hc))
        go_ret2
        exact ⟨HE.out.symm, _, rfl⟩
  · have hE : intE a = .returned (.tuple #[.int .i32 2147483647, .bool false]) := by
      have : intV a = none := by unfold intV; rw [hn]; rfl
      unfold intE; rw [this]
    have hcc : ∀ r, canon r = cutC .zero a → FloatKind.f64.format.order r 13970166044103278592 = none := by
      intro r hr
      unfold cutC at hr
      rw [hn] at hr
      have hr' : canon r = 9221120237041090560 := hr
      refine order_none (.inl ?_)
      cases hb : nanB r
      · rw [canon_of hb] at hr'; rw [hr'] at hb; revert hb; decide
      · rfl
    have HE := Lib.hid hE; clear hE
    have HC := Lib.hid hcc; clear hcc
    go_enter Try.func21, Try.ntmps21
    go_wp2_with (first
      | (go_at_call 31; refine (point_in _ _).mono ?_; rintro e w' ⟨rfl, rfl⟩)
      | (go_at_call 32; refine (trunc_in _ _).mono ?_; rintro e w' ⟨r, n, rfl, rfl, hc⟩; have ho := HC.out _ hc; clear hc))
    go_ret2
    exact ⟨HE.out.symm, _, rfl⟩
end Go.Proofs.Ytckdbgejpagkpaa
