/-
  Numbers with a point: classes and the document's order, walked.
-/
import Derived.Test.YtckdbgejpagkpaaFRealA
import Derived.Laws.BitsAllLaws
namespace Go.Proofs.Ytckdbgejpagkpaa
open Go Go.RowKit
set_option linter.unusedVariables false
set_option linter.unusedSimpArgs false

theorem rung_lt (n : Nat) : rung n < 9223372036854775808 := Nat.mod_lt _ (by omega)
theorem rung_rung (n : Nat) : rung (rung n) = rung n := by unfold rung; omega
theorem nanB_rung (n : Nat) : nanB (rung n) = nanB n := by unfold nanB; rw [rung_rung]
theorem sgn_rung (n : Nat) : sgn (rung n) = false := by
  unfold sgn rung
  rw [Nat.div_eq_of_lt (Nat.mod_lt _ (by omega))]
  rfl
theorem rank_rung (n : Nat) : rank (rung n) = rung n := by unfold rank; rw [sgn_rung, rung_rung]; rfl
theorem abs_bits (n : Nat) (h : n < 18446744073709551616) : bits BinOp.andNot .u64 (n : Int) 9223372036854775808 = ((rung n : Nat) : Int) := by
  have := u64_andNot_nat n 9223372036854775808 h (by omega)
  rw [show ((9223372036854775808 : Nat) : Int) = 9223372036854775808 from rfl] at this
  rw [this, show 18446744073709551615 - 9223372036854775808 = 2 ^ 63 - 1 by decide, Nat.and_two_pow_sub_one_eq_mod]
  rfl
theorem abs_in (n : Nat) (h : n < 18446744073709551616) (w : World) :
    Calls Try.prog 48 #[.float .f64 n] w fun e w' => e = .returned (.float .f64 (rung n)) ∧ w = w' := by
  have hf := tobits_run n
  have hg := frombits_run (rung n)
  rw [Int.toNat_natCast] at hg
  have hb := abs_bits n h
  go_enter Try.func48, Try.ntmps48
  go_wp2
  go_ret
  exact ⟨rfl, rfl⟩
theorem cmp_val (x y : Int) : compare x y = if x < y then .lt else if x = y then .eq else .gt := rfl
theorem gt_of {a b : Nat} (ha : nanB a = false) (hb : nanB b = false) : (FloatKind.f64.format.order a b == some .gt) = decide (rank b < rank a) := by
  rw [order_some ha hb, cmp_val]
  by_cases c : rank a < rank b
  · rw [if_pos c]; simp; omega
  · rw [if_neg c]
    by_cases d : rank a = rank b
    · rw [if_pos d]; simp; omega
    · rw [if_neg d]; simp; omega
theorem lt_of {a b : Nat} (ha : nanB a = false) (hb : nanB b = false) : (FloatKind.f64.format.order a b == some .lt) = decide (rank a < rank b) := by
  rw [order_some ha hb, cmp_val]
  by_cases c : rank a < rank b
  · rw [if_pos c]; simp; omega
  · rw [if_neg c]
    by_cases d : rank a = rank b
    · rw [if_pos d]; simp; omega
    · rw [if_neg d]; simp; omega
theorem eq_of {a b : Nat} (ha : nanB a = false) (hb : nanB b = false) : (FloatKind.f64.format.order a b == some .eq) = decide (rank a = rank b) := by
  rw [order_some ha hb, cmp_val]
  by_cases c : rank a < rank b
  · rw [if_pos c]; simp; omega
  · rw [if_neg c]
    by_cases d : rank a = rank b
    · rw [if_pos d]; simp; omega
    · rw [if_neg d]; simp; omega
/-- That a size is infinite. -/
def infB (n : Nat) : Bool := decide (rung n = 9218868437227405312)
theorem max_gt (n : Nat) (h : nanB n = false) : (FloatKind.f64.format.order (rung n) 9218868437227405311 == some .gt) = infB n := by
  rw [gt_of (by rw [nanB_rung, h]) (by decide), rank_rung, show rank 9218868437227405311 = 9218868437227405311 by decide]
  have := of_decide_eq_false h
  unfold infB
  rw [decide_eq_decide]
  omega
theorem isInf_in (n : Nat) (h : n < 18446744073709551616) (hn : nanB n = false) (w : World) :
    Calls Try.prog 50 #[.float .f64 n, .int .i64 0] w fun e w' => e = .returned (.bool (infB n)) ∧ w = w' := by
  have hm := max_gt n hn
  go_enter Try.func50, Try.ntmps50
  go_wp2_with (go_at_call 48; refine (abs_in _ h _).mono ?_; rintro e w' ⟨rfl, rfl⟩)
  go_ret
  exact ⟨by simp [hm], rfl⟩
/-- A number's class. -/
def clsR (n : Nat) : Int := if nanB n then 4 else if infB n then 3 else if rung n = 0 then 0 else if rung n < 4503599627370496 then 1 else 2
theorem ret_int {k : IntKind} {a b : Int} (h : a = b) : Ending.returned (.int k a) = .returned (.int k b) := by rw [h]
def low52 (m : Int) : Bool := decide (m < 4503599627370496)
theorem low52_eq : ∀ m : Int, decide (m < 4503599627370496) = low52 m := fun _ => rfl
theorem class_in (n : Nat) (h : n < 18446744073709551616) (w : World) :
    Calls Try.prog 30 #[.int .u64 n] w fun e w' => e = .returned (.int .i64 (clsR n)) ∧ w = w' := by
  have h2 : rung n < 18446744073709551616 := by have := rung_lt n; omega
  have H2 := Lib.hid h2; clear h2
  cases hn : nanB n
  · have hn' := (nanB_rung n).trans hn
    have hi : infB (rung n) = infB n := by unfold infB; rw [rung_rung]
    have hz : (FloatKind.f64.format.order (rung n) 0 == some .eq) = decide (rung n = 0) := by
      rw [eq_of hn' (by decide), rank_rung, show rank 0 = 0 by decide, decide_eq_decide]; omega
    have hf := tobits_run (rung n)
    cases hb : infB n
    · by_cases h0 : rung n = 0
      · have hc : clsR n = 0 := by unfold clsR; rw [hn, hb]; simp [h0]
        have HC := Lib.hid hc; have H0 := Lib.hid h0
        have hz' : (FloatKind.f64.format.order (rung n) 0 == some .eq) = true := by rw [hz]; simp [h0]
        clear hz hc h0
        go_enter Try.func30, Try.ntmps30
        go_wp2_with (first
          | (go_at_call 31; refine (point_in _ _).mono ?_; rintro e w' ⟨rfl, rfl⟩)
          | (go_at_call 48; refine (abs_in _ h _).mono ?_; rintro e w' ⟨rfl, rfl⟩)
          | (go_at_call 49; refine (isNaN_in _ _).mono ?_; rintro e w' ⟨rfl, rfl⟩; rw [hn'])
          | (go_at_call 50; refine (isInf_in _ H2.out hn' _).mono ?_; rintro e w' ⟨rfl, rfl⟩; rw [hi, hb]))
        go_ret
        exact ⟨ret_int HC.out.symm, rfl⟩
      · have hz' : (FloatKind.f64.format.order (rung n) 0 == some .eq) = false := by rw [hz]; simp [h0]
        have hc : clsR n = if rung n < 4503599627370496 then 1 else 2 := by unfold clsR; rw [hn, hb]; simp [h0]
        have H0 := Lib.hid h0
        clear hz h0
        by_cases hlt : rung n < 4503599627370496
        · have HC : Hid (clsR n = 1) := Lib.hid (by rw [hc, if_pos hlt])
          clear hc
          have hl : low52 (rung n : Nat) = true := decide_eq_true (by omega)
          have hL := low52_eq
          clear hlt
          go_enter Try.func30, Try.ntmps30
          go_wp2_with (first
            | (go_at_call 31; refine (point_in _ _).mono ?_; rintro e w' ⟨rfl, rfl⟩)
            | (go_at_call 48; refine (abs_in _ h _).mono ?_; rintro e w' ⟨rfl, rfl⟩)
            | (go_at_call 49; refine (isNaN_in _ _).mono ?_; rintro e w' ⟨rfl, rfl⟩; rw [hn'])
            | (go_at_call 50; refine (isInf_in _ H2.out hn' _).mono ?_; rintro e w' ⟨rfl, rfl⟩; rw [hi, hb]))
          go_ret
          exact ⟨ret_int HC.out.symm, rfl⟩
        · have HC : Hid (clsR n = 2) := Lib.hid (by rw [hc, if_neg hlt])
          clear hc
          have hl : low52 (rung n : Nat) = false := decide_eq_false (by omega)
          have hL := low52_eq
          clear hlt
          go_enter Try.func30, Try.ntmps30
          go_wp2_with (first
            | (go_at_call 31; refine (point_in _ _).mono ?_; rintro e w' ⟨rfl, rfl⟩)
            | (go_at_call 48; refine (abs_in _ h _).mono ?_; rintro e w' ⟨rfl, rfl⟩)
            | (go_at_call 49; refine (isNaN_in _ _).mono ?_; rintro e w' ⟨rfl, rfl⟩; rw [hn'])
            | (go_at_call 50; refine (isInf_in _ H2.out hn' _).mono ?_; rintro e w' ⟨rfl, rfl⟩; rw [hi, hb]))
          go_ret
          exact ⟨ret_int HC.out.symm, rfl⟩
    · have hc : clsR n = 3 := by unfold clsR; rw [hn, hb]; rfl
      have HC := Lib.hid hc
      clear hz hc
      go_enter Try.func30, Try.ntmps30
      go_wp2_with (first
        | (go_at_call 31; refine (point_in _ _).mono ?_; rintro e w' ⟨rfl, rfl⟩)
        | (go_at_call 48; refine (abs_in _ h _).mono ?_; rintro e w' ⟨rfl, rfl⟩)
        | (go_at_call 49; refine (isNaN_in _ _).mono ?_; rintro e w' ⟨rfl, rfl⟩; rw [hn'])
        | (go_at_call 50; refine (isInf_in _ H2.out hn' _).mono ?_; rintro e w' ⟨rfl, rfl⟩; rw [hi, hb]))
      go_ret
      exact ⟨ret_int HC.out.symm, rfl⟩
  · have hn' := (nanB_rung n).trans hn
    have hc : clsR n = 4 := by unfold clsR; rw [hn]; rfl
    have HC := Lib.hid hc; clear hc
    go_enter Try.func30, Try.ntmps30
    go_wp2_with (first
      | (go_at_call 31; refine (point_in _ _).mono ?_; rintro e w' ⟨rfl, rfl⟩)
      | (go_at_call 48; refine (abs_in _ h _).mono ?_; rintro e w' ⟨rfl, rfl⟩)
      | (go_at_call 49; refine (isNaN_in _ _).mono ?_; rintro e w' ⟨rfl, rfl⟩; rw [hn']))
    go_ret
    exact ⟨ret_int HC.out.symm, rfl⟩
theorem cls_is (n : Nat) (h : n < 18446744073709551616) : clsR n =
    if n / 4503599627370496 % 2048 = 2047 ∧ n % 4503599627370496 = 0 then 3 else if n / 4503599627370496 % 2048 = 2047 then 4 else if 0 < n / 4503599627370496 % 2048 then 2 else if 0 < n % 4503599627370496 then 1 else 0 := by
  have e : n / 4503599627370496 % 2048 = rung n / 4503599627370496 := by unfold rung; omega
  have f : n % 4503599627370496 = rung n % 4503599627370496 := by unfold rung; omega
  rw [e, f]
  have := rung_lt n
  simp only [clsR, nanB, infB, decide_eq_true_eq]
  generalize rung n = r at *
  repeat' split
  all_goals omega
theorem classR_in (n : Nat) (h : n < 18446744073709551616) (w : World) :
    Calls Try.prog 10 #[.int .u64 n] w fun e w' => e = .returned (.int .i64 (clsR n)) ∧ w = w' := by
  have HC := Lib.hid (cls_is n h)
  go_enter Try.func10, Try.ntmps10
  go_wp2
  all_goals go_ret
  all_goals exact ⟨ret_int (by rw [HC.out]; simp_all <;> omega), rfl⟩
end Go.Proofs.Ytckdbgejpagkpaa
