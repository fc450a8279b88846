/-
  Numbers with a point: sums, products, quotients; a whole number as one with a point, walked.
-/
import Derived.Test.YtckdbgejpagkpaaFRealD
namespace Go.Proofs.Ytckdbgejpagkpaa
open Go Go.RowKit
set_option linter.unusedVariables false
set_option linter.unusedSimpArgs false

/-- A sum's, a product's, a quotient's word. -/
def opR (op : BinOp) (a b : Nat) : Nat := match floatBits op .f64 a b with | some r => canon r | none => 9221120237041090560
theorem nan_cut (t : Nat) (x y : Nat) : canon ((Question.nanBits .f64 x y).cut t) = 9221120237041090560 := by
  have : nanB ((Question.nanBits .f64 x y).cut t) = true := by
    have e : (Question.nanBits .f64 x y).cut t = (t % 2) * 9223372036854775808 + 9218868437227405312 + 1 + (t / 2) % 4503599627370495 := rfl
    unfold nanB rung
    rw [e]
    have h1 : t / 2 % 4503599627370495 < 4503599627370495 := Nat.mod_lt _ (by omega)
    generalize t / 2 % 4503599627370495 = q at *
    generalize t % 2 = s at *
    have h2 : (s * 9223372036854775808 + 9218868437227405312 + 1 + q) % 9223372036854775808 = 9218868437227405312 + 1 + q := by omega
    rw [h2]
    exact decide_eq_true (by omega)
  unfold canon; rw [this]; rfl
theorem arith_run (op : BinOp) (ho : op = .add ∨ op = .mul ∨ op = .quo) (t : TypeId) (a b : Nat) (w : World) :
    ∃ r n, (binOp op t (.float .f64 a) (.float .f64 b)).run Try.prog w = .ok (.float .f64 r) (w.drewN n) ∧ canon r = opR op a b := by
  cases h : floatBits op .f64 a b with
  | some r => exact ⟨r, 0, run_float_arith w op t .f64 a b r h, by unfold opR; rw [h]⟩
  | none =>
    refine ⟨(Question.nanBits .f64 a b).cut (w.tape w.drawn (.nanBits .f64 a b)), 1, ?_, ?_⟩
    · unfold floatBits at h
      have hd : w.drewN 1 = w.drew := rfl
      rw [hd]
      rcases ho with rfl | rfl | rfl
      all_goals
        simp only at h
        simp [binOp, Op.floatArith, h, run_choose_drew, Question.forced]
    · unfold opR; rw [h]; exact nan_cut _ _ _
theorem add_in (a b : Nat) (w : World) :
    Calls Try.prog 14 #[.int .u64 a, .int .u64 b] w fun e w' => e = .returned (.int .u64 (opR .add a b)) ∧ ∃ n, w' = w.drewN n := by
  obtain ⟨r, n, hrun, hr⟩ := arith_run .add (by simp) 36 a b w
  have HR := Lib.hid hr; clear hr
  go_enter Try.func14, Try.ntmps14
  go_wp2_with (first
    | (go_at_call 31; refine (point_in _ _).mono ?_; rintro e w' ⟨rfl, rfl⟩)
    | (go_at_call 36; refine (bits_in _ _).mono ?_; rintro e w' ⟨rfl, rfl⟩; rw [HR.out]))
  go_ret
  exact ⟨rfl, n, rfl⟩
theorem addR_in (a b : Nat) (w : World) :
    Calls Try.prog 15 #[.int .u64 a, .int .u64 b] w fun e w' => e = .returned (.int .u64 (opR .add a b)) ∧ ∃ n, w' = w.drewN n := by
  obtain ⟨r, n, hrun, hr⟩ := arith_run .add (by simp) 36 a b w
  have HR := Lib.hid hr; clear hr
  go_enter Try.func15, Try.ntmps15
  go_wp2_with (first
    | (go_at_call 39; refine (pointR_in _ _).mono ?_; rintro e w' ⟨rfl, rfl⟩)
    | (go_at_call 38; refine (bitsR_in _ _).mono ?_; rintro e w' ⟨rfl, rfl⟩; rw [HR.out]))
  go_ret
  exact ⟨rfl, n, rfl⟩
theorem mul_in (a b : Nat) (w : World) :
    Calls Try.prog 16 #[.int .u64 a, .int .u64 b] w fun e w' => e = .returned (.int .u64 (opR .mul a b)) ∧ ∃ n, w' = w.drewN n := by
  obtain ⟨r, n, hrun, hr⟩ := arith_run .mul (by simp) 36 a b w
  have HR := Lib.hid hr; clear hr
  go_enter Try.func16, Try.ntmps16
  go_wp2_with (first
    | (go_at_call 31; refine (point_in _ _).mono ?_; rintro e w' ⟨rfl, rfl⟩)
    | (go_at_call 36; refine (bits_in _ _).mono ?_; rintro e w' ⟨rfl, rfl⟩; rw [HR.out]))
  go_ret
  exact ⟨rfl, n, rfl⟩
theorem mulR_in (a b : Nat) (w : World) :
    Calls Try.prog 17 #[.int .u64 a, .int .u64 b] w fun e w' => e = .returned (.int .u64 (opR .mul a b)) ∧ ∃ n, w' = w.drewN n := by
  obtain ⟨r, n, hrun, hr⟩ := arith_run .mul (by simp) 36 a b w
  have HR := Lib.hid hr; clear hr
  go_enter Try.func17, Try.ntmps17
  go_wp2_with (first
    | (go_at_call 39; refine (pointR_in _ _).mono ?_; rintro e w' ⟨rfl, rfl⟩)
    | (go_at_call 38; refine (bitsR_in _ _).mono ?_; rintro e w' ⟨rfl, rfl⟩; rw [HR.out]))
  go_ret
  exact ⟨rfl, n, rfl⟩
theorem div_in (a b : Nat) (w : World) :
    Calls Try.prog 18 #[.int .u64 a, .int .u64 b] w fun e w' => e = .returned (.int .u64 (opR .quo a b)) ∧ ∃ n, w' = w.drewN n := by
  obtain ⟨r, n, hrun, hr⟩ := arith_run .quo (by simp) 36 a b w
  have HR := Lib.hid hr; clear hr
  go_enter Try.func18, Try.ntmps18
  go_wp2_with (first
    | (go_at_call 31; refine (point_in _ _).mono ?_; rintro e w' ⟨rfl, rfl⟩)
    | (go_at_call 36; refine (bits_in _ _).mono ?_; rintro e w' ⟨rfl, rfl⟩; rw [HR.out]))
  go_ret
  exact ⟨rfl, n, rfl⟩
theorem divR_in (a b : Nat) (w : World) :
    Calls Try.prog 19 #[.int .u64 a, .int .u64 b] w fun e w' => e = .returned (.int .u64 (opR .quo a b)) ∧ ∃ n, w' = w.drewN n := by
  obtain ⟨r, n, hrun, hr⟩ := arith_run .quo (by simp) 36 a b w
  have HR := Lib.hid hr; clear hr
  go_enter Try.func19, Try.ntmps19
  go_wp2_with (first
    | (go_at_call 39; refine (pointR_in _ _).mono ?_; rintro e w' ⟨rfl, rfl⟩)
    | (go_at_call 38; refine (bitsR_in _ _).mono ?_; rintro e w' ⟨rfl, rfl⟩; rw [HR.out]))
  go_ret
  exact ⟨rfl, n, rfl⟩
/-- A whole number's word. -/
def ofR (n : Int) : Nat := floatOfInt .f64 n
theorem of_run (n : Int) (w : World) : (convert 21 36 (.int .i32 n)).run Try.prog w = .ok (.float .f64 (ofR n)) w :=
  run_convert_int_float w 21 36 .i32 .f64 n (by kernel_rfl) (by kernel_rfl)
theorem of_in (n : Int) (w : World) :
    Calls Try.prog 28 #[.int .i32 n] w fun e w' => e = .returned (.int .u64 (ofR n)) ∧ w = w' := by
  have hr := of_run n
  have hf := tobits_run (ofR n)
  go_enter Try.func28, Try.ntmps28
  go_wp2
  go_ret
  exact ⟨rfl, rfl⟩
theorem ofR_in (n : Int) (w : World) :
    Calls Try.prog 29 #[.int .i32 n] w fun e w' => e = .returned (.int .u64 (canon (ofR n))) ∧ w = w' := by
  have hr := of_run n
  go_enter Try.func29, Try.ntmps29
  go_wp2_with (go_at_call 38; refine (bitsR_in _ _).mono ?_; rintro e w' ⟨rfl, rfl⟩)
  go_ret
  exact ⟨rfl, rfl⟩
end Go.Proofs.Ytckdbgejpagkpaa
