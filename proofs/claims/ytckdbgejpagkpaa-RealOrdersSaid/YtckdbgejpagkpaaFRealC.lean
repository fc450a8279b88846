/-
  Numbers with a point: ranks, the document's order and picks, walked.
-/
import Derived.Test.YtckdbgejpagkpaaFRealB
namespace Go.Proofs.Ytckdbgejpagkpaa
open Go Go.RowKit
set_option linter.unusedVariables false
set_option linter.unusedSimpArgs false

theorem rank_le (n : Nat) : -9223372036854775807 ≤ rank n ∧ rank n ≤ 9223372036854775807 := by
  have := rung_lt n
  unfold rank
  split <;> omega
theorem sgn_is (n : Nat) (h : n < 18446744073709551616) : (((n : Int) / 9223372036854775808 == 1) : Bool) = sgn n := by
  unfold sgn
  rw [Bool.eq_iff_iff, beq_iff_eq, beq_iff_eq]
  omega
theorem rankR_in (n : Nat) (h : n < 18446744073709551616) (w : World) :
    Calls Try.prog 37 #[.int .u64 n] w fun e w' => e = .returned (.int .i64 (rank n)) ∧ w = w' := by
  have hs := sgn_is n h
  have hr : rank n = if sgn n then -(((n : Int) % 9223372036854775808)) else (n : Int) % 9223372036854775808 := by
    unfold rank rung; rfl
  cases hb : sgn n
  all_goals
    rw [hb] at hs hr
    have HR := Lib.hid hr; clear hr
    go_enter Try.func37, Try.ntmps37
    go_wp2
    go_ret
    exact ⟨ret_int (by rw [HR.out]; rfl), rfl⟩
def ltR (a b : Nat) : Bool := decide (rank a < rank b)
theorem orderR_in (a b : Nat) (ha : a < 18446744073709551616) (hb : b < 18446744073709551616) (w : World) :
    Calls Try.prog 13 #[.int .u64 a, .int .u64 b] w fun e w' => e = .returned (.int .i64 (cmpR a b)) ∧ w = w' := by
  have h4 : ∀ n : Nat, ((clsR n == 4) : Bool) = nanB n := fun n => by
    unfold clsR
    cases nanB n
    · simp; repeat' split
      all_goals simp
    · rfl
  have la : decide (rank a < rank b) = ltR a b := rfl
  have lb : decide (rank b < rank a) = ltR b a := rfl
  have hc : cmpR a b = if nanB a || nanB b then 2 else if ltR a b then -1 else if ltR b a then 1 else 0 := by
    unfold cmpR ltR; simp
  cases na : nanB a
  · cases nb : nanB b
    · cases l1 : ltR a b
      · cases l2 : ltR b a
        all_goals
          rw [na, nb, l1, l2] at hc
          have h4a := (h4 a).trans na
          have h4b := (h4 b).trans nb
          have HC := Lib.hid hc; clear hc h4
          go_enter Try.func13, Try.ntmps13
          go_wp2_with (first
            | (go_at_call 10; refine (classR_in _ (by assumption) _).mono ?_; rintro e w' ⟨rfl, rfl⟩)
            | (go_at_call 37; refine (rankR_in _ (by assumption) _).mono ?_; rintro e w' ⟨rfl, rfl⟩))
          go_ret
          exact ⟨ret_int (by rw [HC.out]; rfl), rfl⟩
      · rw [na, nb, l1] at hc
        have h4a := (h4 a).trans na
        have h4b := (h4 b).trans nb
        have HC := Lib.hid hc; clear hc h4
        go_enter Try.func13, Try.ntmps13
        go_wp2_with (first
          | (go_at_call 10; refine (classR_in _ (by assumption) _).mono ?_; rintro e w' ⟨rfl, rfl⟩)
          | (go_at_call 37; refine (rankR_in _ (by assumption) _).mono ?_; rintro e w' ⟨rfl, rfl⟩))
        go_ret
        exact ⟨ret_int (by rw [HC.out]; rfl), rfl⟩
    · rw [na, nb] at hc
      have h4a := (h4 a).trans na
      have h4b := (h4 b).trans nb
      have HC := Lib.hid hc; clear hc h4
      go_enter Try.func13, Try.ntmps13
      go_wp2_with (go_at_call 10; refine (classR_in _ (by assumption) _).mono ?_; rintro e w' ⟨rfl, rfl⟩)
      go_ret
      exact ⟨ret_int (by rw [HC.out]; rfl), rfl⟩
  · rw [na] at hc
    have h4a := (h4 a).trans na
    have HC := Lib.hid hc; clear hc h4
    go_enter Try.func13, Try.ntmps13
    go_wp2_with (go_at_call 10; refine (classR_in _ (by assumption) _).mono ?_; rintro e w' ⟨rfl, rfl⟩)
    go_ret
    exact ⟨ret_int (by rw [HC.out]; rfl), rfl⟩
end Go.Proofs.Ytckdbgejpagkpaa
