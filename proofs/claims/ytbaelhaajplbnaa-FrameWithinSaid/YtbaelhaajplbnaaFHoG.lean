/-
  Where a key stands in a list that rises: cmp.Compare, and the functions that are handed to slices.BinarySearchFunc.
-/
import Derived.Test.YtbaelhaajplbnaaFHoB
namespace Go.Proofs.Ytbaelhaajplbnaa
open Go Go.RowKit
set_option linter.unusedVariables false
set_option linter.unusedSimpArgs false

def cmpI (a b : Nat) : Int := if a < b then -1 else if b < a then 1 else 0
theorem cmpI_lt {a b : Nat} : decide (cmpI a b < 0) = decide (a < b) := by
  rw [cmpI]
  split
  · rename_i h; rw [decide_eq_true h]; rfl
  · rename_i h
    rw [decide_eq_false h]
    split <;> rfl
theorem cmpI_eq {a b : Nat} : ((cmpI a b == 0) : Bool) = (a == b) := by
  rw [cmpI]
  split
  · rename_i h
    rw [beq_eq_false_iff_ne.2 (show a ≠ b by omega)]; rfl
  · split
    · rename_i h h2
      rw [beq_eq_false_iff_ne.2 (show a ≠ b by omega)]; rfl
    · rename_i h h2
      rw [beq_iff_eq.2 (show a = b by omega)]; rfl
theorem cmp64_any (a b : Nat) (w : World) :
    Calls Try.prog 76 #[.int .u64 (a : Nat), .int .u64 (b : Nat)] w fun e w' => e = .returned (.int .i64 (cmpI a b)) ∧ w' = w := by
  have hnan : ∀ (n : Nat) (w : World), Calls Try.prog 85 #[.int .u64 (n : Nat)] w fun e w' => e = .returned (.bool false) ∧ w' = w := fun n w => by
    go_enter Try.func85, Try.ntmps85
    go_wp2
    go_ret
    exact ⟨by simp, rfl⟩
  have HN := Lib.hid hnan; clear hnan
  by_cases h1 : a < b
  · have hr : Hid (cmpI a b = -1) := Lib.hid (by rw [cmpI, if_pos h1])
    have b1 : decide (a < b) = true := decide_eq_true h1
    go_enter Try.func76, Try.ntmps76
    go_wp2_with (go_at_call 85; refine (HN.out _ _).mono ?_; rintro e w' ⟨rfl, rfl⟩)
    go_ret
    exact ⟨by rw [hr.out]; rfl, rfl⟩
  · have b1 : decide (a < b) = false := decide_eq_false h1
    by_cases h2 : b < a
    · have hr : Hid (cmpI a b = 1) := Lib.hid (by rw [cmpI, if_neg h1, if_pos h2])
      have b2 : decide (b < a) = true := decide_eq_true h2
      go_enter Try.func76, Try.ntmps76
      go_wp2_with (go_at_call 85; refine (HN.out _ _).mono ?_; rintro e w' ⟨rfl, rfl⟩)
      go_ret
      exact ⟨by rw [hr.out]; rfl, rfl⟩
    · have hr : Hid (cmpI a b = 0) := Lib.hid (by rw [cmpI, if_neg h1, if_neg h2])
      have b2 : decide (b < a) = false := decide_eq_false h2
      go_enter Try.func76, Try.ntmps76
      go_wp2_with (go_at_call 85; refine (HN.out _ _).mono ?_; rintro e w' ⟨rfl, rfl⟩)
      go_ret
      exact ⟨by rw [hr.out]; rfl, rfl⟩
theorem cmp32_any (a b : Nat) (w : World) :
    Calls Try.prog 82 #[.int .u32 (a : Nat), .int .u32 (b : Nat)] w fun e w' => e = .returned (.int .i64 (cmpI a b)) ∧ w' = w := by
  have hnan : ∀ (n : Nat) (w : World), Calls Try.prog 87 #[.int .u32 (n : Nat)] w fun e w' => e = .returned (.bool false) ∧ w' = w := fun n w => by
    go_enter Try.func87, Try.ntmps87
    go_wp2
    go_ret
    exact ⟨by simp, rfl⟩
  have HN := Lib.hid hnan; clear hnan
  by_cases h1 : a < b
  · have hr : Hid (cmpI a b = -1) := Lib.hid (by rw [cmpI, if_pos h1])
    have b1 : decide (a < b) = true := decide_eq_true h1
    go_enter Try.func82, Try.ntmps82
    go_wp2_with (go_at_call 87; refine (HN.out _ _).mono ?_; rintro e w' ⟨rfl, rfl⟩)
    go_ret
    exact ⟨by rw [hr.out]; rfl, rfl⟩
  · have b1 : decide (a < b) = false := decide_eq_false h1
    by_cases h2 : b < a
    · have hr : Hid (cmpI a b = 1) := Lib.hid (by rw [cmpI, if_neg h1, if_pos h2])
      have b2 : decide (b < a) = true := decide_eq_true h2
      go_enter Try.func82, Try.ntmps82
      go_wp2_with (go_at_call 87; refine (HN.out _ _).mono ?_; rintro e w' ⟨rfl, rfl⟩)
      go_ret
      exact ⟨by rw [hr.out]; rfl, rfl⟩
    · have hr : Hid (cmpI a b = 0) := Lib.hid (by rw [cmpI, if_neg h1, if_neg h2])
      have b2 : decide (b < a) = false := decide_eq_false h2
      go_enter Try.func82, Try.ntmps82
      go_wp2_with (go_at_call 87; refine (HN.out _ _).mono ?_; rintro e w' ⟨rfl, rfl⟩)
      go_ret
      exact ⟨by rw [hr.out]; rfl, rfl⟩
end Go.Proofs.Ytbaelhaajplbnaa
