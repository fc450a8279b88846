/-
  Numbers with a point: the walks of real's and the document's small functions: a word as a number and back, classes, ranks, the order.
-/
import Derived.Test.YtckdbgejpagkpaaFB
import Derived.Test.YtckdbgejpagkpaaFRealP
import Derived.Laws.FloatArith
import Derived.Laws.Externs
import Derived.WalkLawsBesides
namespace Go.Proofs.Ytckdbgejpagkpaa
open Go Go.RowKit
set_option linter.unusedVariables false
set_option linter.unusedSimpArgs false

/-- A word that is of no number. -/
def nanB (n : Nat) : Bool := decide (9218868437227405312 < rung n)
/-- The word that is written of one that is of no number. -/
def canon (n : Nat) : Nat := if nanB n then 9221120237041090560 else n
theorem order_nan {a b : Nat} (h : nanB a = true ∨ nanB b = true) : Ieee.double.order a b = none := by
  unfold Ieee.Format.order
  rcases h with h | h
  · have := read_nan (of_decide_eq_true h)
    generalize Ieee.double.read a = x at this
    cases x <;> simp [Ieee.Datum.isNaN] at this
    simp [Ieee.Datum.order]
  · have := read_nan (of_decide_eq_true h)
    generalize Ieee.double.read b = x at this
    cases x <;> simp [Ieee.Datum.isNaN] at this
    cases Ieee.double.read a <;> simp [Ieee.Datum.order]
/-- How two words stand, as a number: -1, 0, 1, or 2. -/
def cmpR (a b : Nat) : Int := if nanB a || nanB b then 2 else if rank a < rank b then -1 else if rank b < rank a then 1 else 0
theorem order_none {a b : Nat} (h : nanB a = true ∨ nanB b = true) : FloatKind.f64.format.order a b = none := order_nan h
theorem order_some {a b : Nat} (ha : nanB a = false) (hb : nanB b = false) : FloatKind.f64.format.order a b = some (compare (rank a) (rank b)) :=
  order_rank (by have := of_decide_eq_false ha; omega) (by have := of_decide_eq_false hb; omega)
theorem neq_self (n : Nat) : (FloatKind.f64.format.order n n != some .eq) = nanB n := by
  cases h : nanB n
  · rw [order_some h h]
    have : compare (rank n) (rank n) = .eq := by
      rw [show compare (rank n) (rank n) = (if rank n < rank n then .lt else if rank n = rank n then .eq else .gt) from rfl, if_neg (by omega), if_pos rfl]
    rw [this]; rfl
  · rw [order_none (.inl h)]; rfl

theorem frombits_run (n : Int) (w : World) : (callFunc 51 #[.int .u64 n]).run Try.prog w = .ok (.value (.float .f64 n.toNat)) w :=
  run_callFunc_extern (e := Extern.MathFloatBits.float64frombits) Try.func51 (by kernel_rfl) (by kernel_rfl) (by kernel_rfl) (by kernel_rfl) _ _
theorem tobits_run (n : Nat) (w : World) : (callFunc 47 #[.float .f64 n]).run Try.prog w = .ok (.value (.int .u64 n)) w :=
  run_callFunc_extern (e := Extern.MathFloatBits.float64bits) Try.func47 (by kernel_rfl) (by kernel_rfl) (by kernel_rfl) (by kernel_rfl) _ _

theorem point_in (n : Nat) (w : World) :
    Calls Try.prog 31 #[.int .u64 n] w fun e w' => e = .returned (.float .f64 n) ∧ w = w' := by
  have hf := frombits_run n
  rw [Int.toNat_natCast] at hf
  go_enter Try.func31, Try.ntmps31
  go_wp2
  go_ret
  exact ⟨rfl, rfl⟩
theorem pointR_in (n : Nat) (w : World) :
    Calls Try.prog 39 #[.int .u64 n] w fun e w' => e = .returned (.float .f64 n) ∧ w = w' := by
  have hf := frombits_run n
  rw [Int.toNat_natCast] at hf
  go_enter Try.func39, Try.ntmps39
  go_wp2
  go_ret
  exact ⟨rfl, rfl⟩
theorem isNaN_in (n : Nat) (w : World) :
    Calls Try.prog 49 #[.float .f64 n] w fun e w' => e = .returned (.bool (nanB n)) ∧ w = w' := by
  have hn := neq_self n
  go_enter Try.func49, Try.ntmps49
  go_wp2
  go_ret
  exact ⟨by simp [hn], rfl⟩
theorem bits_in (n : Nat) (w : World) :
    Calls Try.prog 36 #[.float .f64 n] w fun e w' => e = .returned (.int .u64 (canon n)) ∧ w = w' := by
  have hf := tobits_run n
  cases h : nanB n
  all_goals
    have hc : canon n = if nanB n then 9221120237041090560 else n := rfl
    rw [h] at hc
    have HC := Lib.hid hc; clear hc
    go_enter Try.func36, Try.ntmps36
    go_wp2_with (go_at_call 49; refine (isNaN_in _ _).mono ?_; rintro e w' ⟨rfl, rfl⟩)
    go_ret
    exact ⟨by rw [HC.out]; rfl, rfl⟩
theorem bitsR_in (n : Nat) (w : World) :
    Calls Try.prog 38 #[.float .f64 n] w fun e w' => e = .returned (.int .u64 (canon n)) ∧ w = w' := by
  have hf := tobits_run n
  have hn := neq_self n
  cases h : nanB n
  all_goals
    rw [h] at hn
    have hc : canon n = if nanB n then 9221120237041090560 else n := rfl
    rw [h] at hc
    have HC := Lib.hid hc; clear hc
    go_enter Try.func38, Try.ntmps38
    go_wp2
    go_ret
    exact ⟨by rw [HC.out]; rfl, rfl⟩
end Go.Proofs.Ytckdbgejpagkpaa
