/-
  Numbers with a point: the document's whole numbers of 32 bits, walked.
-/
import Derived.Test.YtckdbgejpagkpaaFRealJ
namespace Go.Proofs.Ytckdbgejpagkpaa
open Go Go.RowKit
set_option linter.unusedVariables false
set_option linter.unusedSimpArgs false

theorem intR_in (a : Nat) (h : a < 18446744073709551616) (w : World) :
    Calls Try.prog 22 #[.int .u64 a] w fun e w' => e = intE a ∧ w = w' := by
  have h4 := h4_any a
  cases hn : nanB a
  · rw [hn] at h4
    have hcn := cutR_nanB hn .zero
    have hrd : roundD a 0 = cutR .zero a := by unfold roundD; rw [hn]; rfl
    have g1 := ge_of (b := 4746794007248502784) hcn (by decide)
    have g2 := lt_of (b := 13970166044103278592) hcn (by decide)
    rw [show rank 13970166044103278592 = -4746794007248502784 by decide] at g2
    rw [show rank 4746794007248502784 = 4746794007248502784 by decide] at g1
    rcases int_ways a h hn with ⟨n, hv, k1, k2⟩ | ⟨k1, k2⟩
    · have hE : intE a = .returned (.tuple #[.int .i32 n, .bool true]) := by
        have : intV a = some n := by unfold intV; rw [hn]; simp only [Bool.false_eq_true, if_false]; rw [if_pos ⟨k1, k2⟩, hv]
        unfold intE; rw [this]
      rw [decide_eq_false (by omega)] at g2
      rw [decide_eq_false (by omega)] at g1
      have hcv := fun w => run_convert_float_int (P := Try.prog) w 36 21 .f64 .i32 _ n (by kernel_rfl) (by kernel_rfl) hv
      clear k1 k2 hv hcn
      generalize cutR .zero a = c at *
      have HE := Lib.hid hE; clear hE
      have HR := Lib.hid hrd; clear hrd
      go_enter Try.func22, Try.ntmps22
      go_wp2_with (first
        | (go_at_call 39; refine (pointR_in _ _).mono ?_; rintro e w' ⟨rfl, rfl⟩)
        | (go_at_call 10; refine (classR_in _ (by assumption) _).mono ?_; rintro e w' ⟨rfl, rfl⟩)
        | (go_at_call 27; refine (roundR_in _ _ (by assumption) _).mono ?_; rintro e w' ⟨rfl, rfl⟩; rw [HR.out]))
      go_ret2
      exact ⟨HE.out.symm, rfl⟩
    · have hE : intE a = .returned (.tuple #[.int .i32 2147483647, .bool false]) := by
        have : intV a = none := by unfold intV; rw [hn]; simp only [Bool.false_eq_true, if_false]; rw [if_neg k1]
        unfold intE; rw [this]
      by_cases k3 : 4746794007248502784 ≤ rank (cutR .zero a)
      · rw [decide_eq_true k3] at g1
        clear k1 k2 k3 g2 hcn
        generalize cutR .zero a = c at *
        have HE := Lib.hid hE; clear hE
        have HR := Lib.hid hrd; clear hrd
        go_enter Try.func22, Try.ntmps22
        go_wp2_with (first
          | (go_at_call 39; refine (pointR_in _ _).mono ?_; rintro e w' ⟨rfl, rfl⟩)
          | (go_at_call 10; refine (classR_in _ (by assumption) _).mono ?_; rintro e w' ⟨rfl, rfl⟩)
          | (go_at_call 27; refine (roundR_in _ _ (by assumption) _).mono ?_; rintro e w' ⟨rfl, rfl⟩; rw [HR.out]))
        go_ret2
        exact ⟨HE.out.symm, rfl⟩
      · rw [decide_eq_false k3] at g1
        rw [decide_eq_true (by omega)] at g2
        clear k1 k2 k3 hcn
        generalize cutR .zero a = c at *
        have HE := Lib.hid hE; clear hE
        have HR := Lib.hid hrd; clear hrd
        go_enter Try.func22, Try.ntmps22
        go_wp2_with (first
          | (go_at_call 39; refine (pointR_in _ _).mono ?_; rintro e w' ⟨rfl, rfl⟩)
          | (go_at_call 10; refine (classR_in _ (by assumption) _).mono ?_; rintro e w' ⟨rfl, rfl⟩)
          | (go_at_call 27; refine (roundR_in _ _ (by assumption) _).mono ?_; rintro e w' ⟨rfl, rfl⟩; rw [HR.out]))
        go_ret2
        exact ⟨HE.out.symm, rfl⟩
  · rw [hn] at h4
    have hE : intE a = .returned (.tuple #[.int .i32 2147483647, .bool false]) := by
      have : intV a = none := by unfold intV; rw [hn]; rfl
      unfold intE; rw [this]
    have HE := Lib.hid hE; clear hE
    go_enter Try.func22, Try.ntmps22
    go_wp2_with (go_at_call 10; refine (classR_in _ (by assumption) _).mono ?_; rintro e w' ⟨rfl, rfl⟩)
    go_ret2
    exact ⟨HE.out.symm, rfl⟩
end Go.Proofs.Ytckdbgejpagkpaa
