/-
  Numbers with a point: the document's way to a whole number, walked.
-/
import Derived.Test.YtckdbgejpagkpaaFRealE
namespace Go.Proofs.Ytckdbgejpagkpaa
open Go Go.RowKit
set_option linter.unusedVariables false
set_option linter.unusedSimpArgs false
theorem h3_any (n : Nat) : ((clsR n == 3) : Bool) = (!nanB n && infB n) := by
  unfold clsR
  cases nanB n
  · cases infB n
    · simp; repeat' split
      all_goals simp
    · rfl
  · rfl
set_option maxRecDepth 100000 in
theorem roundR_out (a : Nat) (way : Int) (h : a < 18446744073709551616) (hw : nanB a = true ∨ infB a = true ∨ way < 0 ∨ 3 < way) (w : World) :
    Calls Try.prog 27 #[.int .u64 a, .int .i64 way] w fun e w' => e = .returned (.int .u64 (canon a)) ∧ w = w' := by
  have h4a := h4_any a
  have h3a := h3_any a
  have hc : canon a = if nanB a then 9221120237041090560 else a := rfl
  cases na : nanB a
  · rw [na] at h4a h3a hc
    have HC := Lib.hid hc; clear hc
    cases ia : infB a
    · rw [ia] at h3a
      have hw2 : way < 0 ∨ 3 < way := by
        rcases hw with e | e | e
        · rw [na] at e; cases e
        · rw [ia] at e; cases e
        · exact e
      clear hw
      rcases hw2 with e | e
      all_goals
        go_enter Try.func27, Try.ntmps27
        go_wp2_with (go_at_call 10; refine (classR_in _ (by assumption) _).mono ?_; rintro e w' ⟨rfl, rfl⟩)
        go_ret
        exact ⟨ret_int (by rw [HC.out]; rfl), rfl⟩
    · rw [ia] at h3a
      clear hw
      go_enter Try.func27, Try.ntmps27
      go_wp2_with (go_at_call 10; refine (classR_in _ (by assumption) _).mono ?_; rintro e w' ⟨rfl, rfl⟩)
      go_ret
      exact ⟨ret_int (by rw [HC.out]; rfl), rfl⟩
  · rw [na] at h4a hc
    have HC := Lib.hid hc; clear hc hw
    go_enter Try.func27, Try.ntmps27
    go_wp2_with (go_at_call 10; refine (classR_in _ (by assumption) _).mono ?_; rintro e w' ⟨rfl, rfl⟩)
    go_ret
    exact ⟨ret_int (by rw [HC.out]; rfl), rfl⟩
set_option maxRecDepth 100000 in
theorem roundR_big (a x : Nat) (way : Int) (h : a < 18446744073709551616) (h4a : (clsR a == 4) = false) (h3a : (clsR a == 3) = false) (hw0 : 0 ≤ way) (hw1 : way ≤ 3) (hx : (a : Int) / 4503599627370496 % 2048 = x) (hx1 : 1075 ≤ x) (hx2 : x ≤ 2047) (w : World) :
    Calls Try.prog 27 #[.int .u64 a, .int .i64 way] w fun e w' => e = .returned (.int .u64 a) ∧ w = w' := by
  go_enter Try.func27, Try.ntmps27
  go_wp2_with (go_at_call 10; refine (classR_in _ (by assumption) _).mono ?_; rintro e w' ⟨rfl, rfl⟩)
  go_ret
  exact ⟨rfl, rfl⟩
/-- The ways, by their numbers. -/
def wayOf (k : Int) : Ieee.Toward := if k = 0 then .zero else if k = 1 then .down else if k = 2 then .up else .even
def half52 (m : Int) : Bool := decide (4602678819172646912 < m)
theorem half52_eq : ∀ m : Int, decide (4602678819172646912 < m) = half52 m := fun _ => rfl
/-- What a number below 1 becomes. -/
def smallR (k : Int) (neg : Bool) (z : Nat) : Nat := Ieee.double.word neg (if smallUp (wayOf k) neg z then 4607182418800017408 else 0)
theorem or_one : bits BinOp.or IntKind.u64 9223372036854775808 4607182418800017408 = 13830554455654793216 := by decide +kernel
theorem or_one0 : bits BinOp.or IntKind.u64 0 4607182418800017408 = 4607182418800017408 := by decide +kernel
set_option maxRecDepth 100000 in
theorem small_pos0 (a x : Nat) (h : a < 18446744073709551616) (h4a : (clsR a == 4) = false) (h3a : (clsR a == 3) = false) (hx : (a : Int) / 4503599627370496 % 2048 = x) (hx2 : x ≤ 1022)
    (hs : (a : Int) / 9223372036854775808 * 9223372036854775808 = 0) (w : World) :
    Calls Try.prog 27 #[.int .u64 a, .int .i64 0] w fun e w' => e = .returned (.int .u64 (smallR 0 false a : Nat)) ∧ w = w' := by
  have hone := or_one0
  have HU : Hid (smallUp (wayOf 0) false a = false) := Lib.hid (rfl)
  go_enter Try.func27, Try.ntmps27
  go_wp2_with (go_at_call 10; refine (classR_in _ (by assumption) _).mono ?_; rintro e w' ⟨rfl, rfl⟩)
  go_ret
  exact ⟨ret_int (by rw [smallR, HU.out]; decide +kernel), rfl⟩
set_option maxRecDepth 100000 in
theorem small_pos1 (a x : Nat) (h : a < 18446744073709551616) (h4a : (clsR a == 4) = false) (h3a : (clsR a == 3) = false) (hx : (a : Int) / 4503599627370496 % 2048 = x) (hx2 : x ≤ 1022)
    (hs : (a : Int) / 9223372036854775808 * 9223372036854775808 = 0) (w : World) :
    Calls Try.prog 27 #[.int .u64 a, .int .i64 1] w fun e w' => e = .returned (.int .u64 (smallR 1 false a : Nat)) ∧ w = w' := by
  have hone := or_one0
  have HU : Hid (smallUp (wayOf 1) false a = false) := Lib.hid (rfl)
  go_enter Try.func27, Try.ntmps27
  go_wp2_with (go_at_call 10; refine (classR_in _ (by assumption) _).mono ?_; rintro e w' ⟨rfl, rfl⟩)
  go_ret
  exact ⟨ret_int (by rw [smallR, HU.out]; decide +kernel), rfl⟩
set_option maxRecDepth 100000 in
theorem small_pos2 (a x : Nat) (h : a < 18446744073709551616) (h4a : (clsR a == 4) = false) (h3a : (clsR a == 3) = false) (hx : (a : Int) / 4503599627370496 % 2048 = x) (hx2 : x ≤ 1022)
    (hs : (a : Int) / 9223372036854775808 * 9223372036854775808 = 0) (w : World) :
    Calls Try.prog 27 #[.int .u64 a, .int .i64 2] w fun e w' => e = .returned (.int .u64 (smallR 2 false a : Nat)) ∧ w = w' := by
  have hone := or_one0
  by_cases hq : a = 0
  · have HU : Hid (smallUp (wayOf 2) false a = false) := Lib.hid (by rw [hq]; rfl)
    have hp : decide (0 < a) = false := by rw [hq]; rfl
    have HQ := Lib.hid hq; clear hq
    go_enter Try.func27, Try.ntmps27
    go_wp2_with (go_at_call 10; refine (classR_in _ (by assumption) _).mono ?_; rintro e w' ⟨rfl, rfl⟩)
    go_ret
    exact ⟨ret_int (by rw [smallR, HU.out]; decide +kernel), rfl⟩
  · have HU : Hid (smallUp (wayOf 2) false a = true) := Lib.hid (by simp [wayOf, smallUp, hq])
    have hp : (0 : Int) < (a : Nat) := by omega
    clear hq
    go_enter Try.func27, Try.ntmps27
    go_wp2_with (go_at_call 10; refine (classR_in _ (by assumption) _).mono ?_; rintro e w' ⟨rfl, rfl⟩)
    go_ret
    exact ⟨ret_int (by rw [smallR, HU.out]; decide +kernel), rfl⟩
set_option maxRecDepth 100000 in
theorem small_pos3 (a x : Nat) (h : a < 18446744073709551616) (h4a : (clsR a == 4) = false) (h3a : (clsR a == 3) = false) (hx : (a : Int) / 4503599627370496 % 2048 = x) (hx2 : x ≤ 1022)
    (hs : (a : Int) / 9223372036854775808 * 9223372036854775808 = 0) (w : World) :
    Calls Try.prog 27 #[.int .u64 a, .int .i64 3] w fun e w' => e = .returned (.int .u64 (smallR 3 false a : Nat)) ∧ w = w' := by
  have hone := or_one0
  have hu : smallUp (wayOf 3) false a = half52 (a : Nat) := by
    show decide (4602678819172646912 < a) = decide ((4602678819172646912 : Int) < (a : Nat))
    rw [decide_eq_decide]; omega
  have hh := half52_eq
  cases hb : half52 (a : Nat)
  · rw [hb] at hu
    have HU := Lib.hid hu; clear hu
    go_enter Try.func27, Try.ntmps27
    go_wp2_with (go_at_call 10; refine (classR_in _ (by assumption) _).mono ?_; rintro e w' ⟨rfl, rfl⟩)
    go_ret
    exact ⟨ret_int (by rw [smallR, HU.out]; decide +kernel), rfl⟩
  · rw [hb] at hu
    have HU := Lib.hid hu; clear hu
    have hp : (0 : Int) < (a : Nat) := by have := of_decide_eq_true hb; omega
    go_enter Try.func27, Try.ntmps27
    go_wp2_with (go_at_call 10; refine (classR_in _ (by assumption) _).mono ?_; rintro e w' ⟨rfl, rfl⟩)
    go_ret
    exact ⟨ret_int (by rw [smallR, HU.out]; decide +kernel), rfl⟩
set_option maxRecDepth 100000 in
theorem small_neg0 (a x : Nat) (h : a < 18446744073709551616) (h4a : (clsR a == 4) = false) (h3a : (clsR a == 3) = false) (hx : (a : Int) / 4503599627370496 % 2048 = x) (hx2 : x ≤ 1022)
    (hs : (a : Int) / 9223372036854775808 * 9223372036854775808 = 9223372036854775808) (z : Nat) (hz : (a : Int) - 9223372036854775808 = z) (hz0 : (z : Int) ≤ 9223372036854775807) (w : World) :
    Calls Try.prog 27 #[.int .u64 a, .int .i64 0] w fun e w' => e = .returned (.int .u64 (smallR 0 true z : Nat)) ∧ w = w' := by
  have hone := or_one
  have HU : Hid (smallUp (wayOf 0) true z = false) := Lib.hid (rfl)
  go_enter Try.func27, Try.ntmps27
  go_wp2_with (go_at_call 10; refine (classR_in _ (by assumption) _).mono ?_; rintro e w' ⟨rfl, rfl⟩)
  go_ret
  exact ⟨ret_int (by rw [smallR, HU.out]; decide +kernel), rfl⟩
set_option maxRecDepth 100000 in
theorem small_neg1 (a x : Nat) (h : a < 18446744073709551616) (h4a : (clsR a == 4) = false) (h3a : (clsR a == 3) = false) (hx : (a : Int) / 4503599627370496 % 2048 = x) (hx2 : x ≤ 1022)
    (hs : (a : Int) / 9223372036854775808 * 9223372036854775808 = 9223372036854775808) (z : Nat) (hz : (a : Int) - 9223372036854775808 = z) (hz0 : (z : Int) ≤ 9223372036854775807) (w : World) :
    Calls Try.prog 27 #[.int .u64 a, .int .i64 1] w fun e w' => e = .returned (.int .u64 (smallR 1 true z : Nat)) ∧ w = w' := by
  have hone := or_one
  by_cases hq : z = 0
  · have HU : Hid (smallUp (wayOf 1) true z = false) := Lib.hid (by rw [hq]; rfl)
    have hp : decide (0 < z) = false := by rw [hq]; rfl
    have HQ := Lib.hid hq; clear hq
    go_enter Try.func27, Try.ntmps27
    go_wp2_with (go_at_call 10; refine (classR_in _ (by assumption) _).mono ?_; rintro e w' ⟨rfl, rfl⟩)
    go_ret
    exact ⟨ret_int (by rw [smallR, HU.out]; decide +kernel), rfl⟩
  · have HU : Hid (smallUp (wayOf 1) true z = true) := Lib.hid (by simp [wayOf, smallUp, hq])
    have hp : (0 : Int) < (z : Nat) := by omega
    clear hq
    go_enter Try.func27, Try.ntmps27
    go_wp2_with (go_at_call 10; refine (classR_in _ (by assumption) _).mono ?_; rintro e w' ⟨rfl, rfl⟩)
    go_ret
    exact ⟨ret_int (by rw [smallR, HU.out]; decide +kernel), rfl⟩
set_option maxRecDepth 100000 in
theorem small_neg2 (a x : Nat) (h : a < 18446744073709551616) (h4a : (clsR a == 4) = false) (h3a : (clsR a == 3) = false) (hx : (a : Int) / 4503599627370496 % 2048 = x) (hx2 : x ≤ 1022)
    (hs : (a : Int) / 9223372036854775808 * 9223372036854775808 = 9223372036854775808) (z : Nat) (hz : (a : Int) - 9223372036854775808 = z) (hz0 : (z : Int) ≤ 9223372036854775807) (w : World) :
    Calls Try.prog 27 #[.int .u64 a, .int .i64 2] w fun e w' => e = .returned (.int .u64 (smallR 2 true z : Nat)) ∧ w = w' := by
  have hone := or_one
  have HU : Hid (smallUp (wayOf 2) true z = false) := Lib.hid (rfl)
  go_enter Try.func27, Try.ntmps27
  go_wp2_with (go_at_call 10; refine (classR_in _ (by assumption) _).mono ?_; rintro e w' ⟨rfl, rfl⟩)
  go_ret
  exact ⟨ret_int (by rw [smallR, HU.out]; decide +kernel), rfl⟩
set_option maxRecDepth 100000 in
theorem small_neg3 (a x : Nat) (h : a < 18446744073709551616) (h4a : (clsR a == 4) = false) (h3a : (clsR a == 3) = false) (hx : (a : Int) / 4503599627370496 % 2048 = x) (hx2 : x ≤ 1022)
    (hs : (a : Int) / 9223372036854775808 * 9223372036854775808 = 9223372036854775808) (z : Nat) (hz : (a : Int) - 9223372036854775808 = z) (hz0 : (z : Int) ≤ 9223372036854775807) (w : World) :
    Calls Try.prog 27 #[.int .u64 a, .int .i64 3] w fun e w' => e = .returned (.int .u64 (smallR 3 true z : Nat)) ∧ w = w' := by
  have hone := or_one
  have hu : smallUp (wayOf 3) true z = half52 (z : Nat) := by
    show decide (4602678819172646912 < z) = decide ((4602678819172646912 : Int) < (z : Nat))
    rw [decide_eq_decide]; omega
  have hh := half52_eq
  cases hb : half52 (z : Nat)
  · rw [hb] at hu
    have HU := Lib.hid hu; clear hu
    go_enter Try.func27, Try.ntmps27
    go_wp2_with (go_at_call 10; refine (classR_in _ (by assumption) _).mono ?_; rintro e w' ⟨rfl, rfl⟩)
    go_ret
    exact ⟨ret_int (by rw [smallR, HU.out]; decide +kernel), rfl⟩
  · rw [hb] at hu
    have HU := Lib.hid hu; clear hu
    have hp : (0 : Int) < (z : Nat) := by have := of_decide_eq_true hb; omega
    go_enter Try.func27, Try.ntmps27
    go_wp2_with (go_at_call 10; refine (classR_in _ (by assumption) _).mono ?_; rintro e w' ⟨rfl, rfl⟩)
    go_ret
    exact ⟨ret_int (by rw [smallR, HU.out]; decide +kernel), rfl⟩
end Go.Proofs.Ytckdbgejpagkpaa
