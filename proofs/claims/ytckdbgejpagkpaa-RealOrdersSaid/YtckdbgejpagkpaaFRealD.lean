/-
  Numbers with a point: the document's picks; sums, products, quotients; whole numbers, walked.
-/
import Derived.Test.YtckdbgejpagkpaaFRealC
namespace Go.Proofs.Ytckdbgejpagkpaa
open Go Go.RowKit
set_option linter.unusedVariables false
set_option linter.unusedSimpArgs false

/-- The document's choice of one of two. -/
def pickR (a b : Nat) (l : Bool) : Nat :=
  if nanB a then (if nanB b then 9221120237041090560 else b) else if nanB b then a
  else if cmpR a b = 0 then (if a = b then (if l then a else b) else if sgn a == l then a else b)
  else if cmpR a b = -1 then (if l then a else b) else (if l then b else a)
theorem h4_any (n : Nat) : ((clsR n == 4) : Bool) = nanB n := by
  unfold clsR
  cases nanB n
  · simp; repeat' split
    all_goals simp
  · rfl
theorem cmp_ways (a b : Nat) (na : nanB a = false) (nb : nanB b = false) : cmpR a b = 0 ∨ cmpR a b = -1 ∨ cmpR a b = 1 := by
  unfold cmpR
  rw [na, nb]
  simp only [Bool.or_self, Bool.false_eq_true, if_false]
  split
  · simp
  · split <;> simp
theorem pickR_in (a b : Nat) (l : Bool) (ha : a < 18446744073709551616) (hb : b < 18446744073709551616) (w : World) :
    Calls Try.prog 45 #[.int .u64 a, .int .u64 b, .bool l] w fun e w' => e = .returned (.int .u64 (pickR a b l)) ∧ w = w' := by
  have h4a := h4_any a
  have h4b := h4_any b
  have hc : pickR a b l = pickR a b l := rfl
  conv at hc => rhs; unfold pickR
  cases na : nanB a
  · cases nb : nanB b
    · have hs := sgn_is a ha
      rcases cmp_ways a b na nb with e | e | e
      · by_cases hab : a = b
        · have n1 : ((a : Int) != (b : Int)) = false := by simp [hab]
          rw [na, nb, e, if_pos hab] at hc
          have E := Lib.hid e; clear e hab hs
          rw [na] at h4a; rw [nb] at h4b
          cases l
          all_goals
            have HC := Lib.hid hc; clear hc
            go_enter Try.func45, Try.ntmps45
            go_wp2_with (first
              | (go_at_call 10; refine (classR_in _ (by assumption) _).mono ?_; rintro e w' ⟨rfl, rfl⟩)
              | (go_at_call 13; refine (orderR_in _ _ (by assumption) (by assumption) _).mono ?_; rintro e w' ⟨rfl, rfl⟩; rw [E.out]))
            go_ret
            exact ⟨ret_int (by rw [HC.out]; rfl), rfl⟩
        · have n1 : ((a : Int) != (b : Int)) = true := by simp; omega
          rw [na, nb, e, if_neg hab] at hc
          have E := Lib.hid e; clear e hab
          rw [na] at h4a; rw [nb] at h4b
          cases sa : sgn a
          all_goals
            rw [sa] at hs hc
            cases l
            all_goals
              have HC := Lib.hid hc; clear hc
              go_enter Try.func45, Try.ntmps45
              go_wp2_with (first
                | (go_at_call 10; refine (classR_in _ (by assumption) _).mono ?_; rintro e w' ⟨rfl, rfl⟩)
                | (go_at_call 13; refine (orderR_in _ _ (by assumption) (by assumption) _).mono ?_; rintro e w' ⟨rfl, rfl⟩; rw [E.out]))
              go_ret
              exact ⟨ret_int (by rw [HC.out]; rfl), rfl⟩
      all_goals
        rw [na, nb, e] at hc
        have E := Lib.hid e; clear e hs
        rw [na] at h4a; rw [nb] at h4b
        cases l
        all_goals
          have HC := Lib.hid hc; clear hc
          go_enter Try.func45, Try.ntmps45
          go_wp2_with (first
            | (go_at_call 10; refine (classR_in _ (by assumption) _).mono ?_; rintro e w' ⟨rfl, rfl⟩)
            | (go_at_call 13; refine (orderR_in _ _ (by assumption) (by assumption) _).mono ?_; rintro e w' ⟨rfl, rfl⟩; rw [E.out]))
          go_ret
          exact ⟨ret_int (by rw [HC.out]; rfl), rfl⟩
    · rw [na, nb] at hc
      have HC := Lib.hid hc; clear hc
      rw [na] at h4a; rw [nb] at h4b
      go_enter Try.func45, Try.ntmps45
      go_wp2_with (go_at_call 10; refine (classR_in _ (by assumption) _).mono ?_; rintro e w' ⟨rfl, rfl⟩)
      go_ret
      exact ⟨ret_int (by rw [HC.out]; rfl), rfl⟩
  · cases nb : nanB b
    all_goals
      rw [na, nb] at hc
      have HC := Lib.hid hc; clear hc
      rw [na] at h4a; rw [nb] at h4b
      go_enter Try.func45, Try.ntmps45
      go_wp2_with (go_at_call 10; refine (classR_in _ (by assumption) _).mono ?_; rintro e w' ⟨rfl, rfl⟩)
      go_ret
      exact ⟨ret_int (by rw [HC.out]; rfl), rfl⟩
theorem minR_in (a b : Nat) (ha : a < 18446744073709551616) (hb : b < 18446744073709551616) (w : World) :
    Calls Try.prog 24 #[.int .u64 a, .int .u64 b] w fun e w' => e = .returned (.int .u64 (pickR a b true)) ∧ w = w' := by
  go_enter Try.func24, Try.ntmps24
  go_wp2_with (go_at_call 45; refine (pickR_in _ _ _ (by assumption) (by assumption) _).mono ?_; rintro e w' ⟨rfl, rfl⟩)
  go_ret
  exact ⟨rfl, rfl⟩
theorem pick_self (a : Nat) (l : Bool) : pickR a a l = canon a := by
  unfold pickR canon
  cases na : nanB a
  · have : cmpR a a = 0 := by unfold cmpR; simp [na]
    simp [this]
  · simp
theorem maxR_in (a b : Nat) (ha : a < 18446744073709551616) (hb : b < 18446744073709551616) (w : World) :
    Calls Try.prog 26 #[.int .u64 a, .int .u64 b] w fun e w' => e = .returned (.int .u64 (pickR a b false)) ∧ w = w' := by
  have h4a := h4_any a
  have h4b : ((clsR a != 4) : Bool) = !nanB a := by rw [← h4a]; rfl
  by_cases hab : a = b
  · subst hab
    have n1 : ((a : Int) == (a : Int)) = true := by simp
    have hp := pick_self a false
    cases na : nanB a
    · have hp2 : pickR a a false = a := by rw [hp]; unfold canon; rw [na]; rfl
      rw [na] at h4a h4b
      have HP := Lib.hid hp2; clear hp hp2
      go_enter Try.func26, Try.ntmps26
      go_wp2_with (first
        | (go_at_call 10; refine (classR_in _ (by assumption) _).mono ?_; rintro e w' ⟨rfl, rfl⟩)
        | (go_at_call 45; refine (pickR_in _ _ _ (by assumption) (by assumption) _).mono ?_; rintro e w' ⟨rfl, rfl⟩))
      go_ret
      exact ⟨ret_int (by rw [HP.out]), rfl⟩
    · rw [na] at h4a h4b
      clear hp
      go_enter Try.func26, Try.ntmps26
      go_wp2_with (first
        | (go_at_call 10; refine (classR_in _ (by assumption) _).mono ?_; rintro e w' ⟨rfl, rfl⟩)
        | (go_at_call 45; refine (pickR_in _ _ _ (by assumption) (by assumption) _).mono ?_; rintro e w' ⟨rfl, rfl⟩))
      go_ret
      exact ⟨rfl, rfl⟩
  · have n1 : ((a : Int) == (b : Int)) = false := by simp; omega
    clear hab
    go_enter Try.func26, Try.ntmps26
    go_wp2_with (first
      | (go_at_call 10; refine (classR_in _ (by assumption) _).mono ?_; rintro e w' ⟨rfl, rfl⟩)
      | (go_at_call 45; refine (pickR_in _ _ _ (by assumption) (by assumption) _).mono ?_; rintro e w' ⟨rfl, rfl⟩))
    go_ret
    exact ⟨rfl, rfl⟩
end Go.Proofs.Ytckdbgejpagkpaa
