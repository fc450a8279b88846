/-
  Numbers with a point: the laws that hold against the document's answers, walked.
-/
import Derived.Test.YtckdbgejpagkpaaFRealR
namespace Go.Proofs.Ytckdbgejpagkpaa
open Go Go.RowKit
set_option linter.unusedVariables false
set_option linter.unusedSimpArgs false

theorem nat_of_u64 {a : Int} (h : (Lit.int .u64 a).wf = true) : ∃ n : Nat, a = (n : Int) ∧ n < 18446744073709551616 := by
  have i1 : IntKind.u64.min = 0 := by decide
  have i2 : IntKind.u64.max = 18446744073709551615 := by decide
  simp only [Lit.wf, i1, i2, Bool.and_eq_true, decide_eq_true_eq] at h
  exact ⟨a.toNat, by omega, by omega⟩
theorem tells_walk (a b : Nat) (ha : a < 18446744073709551616) (hb : b < 18446744073709551616) (w : World) :
    Calls Try.prog 9 #[.int .u64 a, .int .u64 b] w fun e w' => e = .returned (.bool true) ∧ Below w.heap.size w w' := by
  have HB : Hid (Below w.heap.size w w) := Lib.hid (Below.refl _ _)
  go_enter Try.func9, Try.ntmps9
  go_wp2_with (first
    | (go_at_call 30; (with_reducible refine (b_same (class_in a ha _)).mono ?_); rintro e w' ⟨rfl, hB⟩; replace HB := hidB HB hB; clear hB)
    | (go_at_call 10; (with_reducible refine (b_same (classR_in a ha _)).mono ?_); rintro e w' ⟨rfl, hB⟩; replace HB := hidB HB hB; clear hB)
    | (go_at_call 20; (with_reducible refine (order_in a b _).mono ?_); rintro e w' ⟨rfl, hB⟩; replace HB := hidB HB hB; clear hB)
    | (go_at_call 13; (with_reducible refine (b_same (orderR_in a b ha hb _)).mono ?_); rintro e w' ⟨rfl, hB⟩; replace HB := hidB HB hB; clear hB)
    | (go_at_call 11; (with_reducible refine (awake_in _).mono ?_); rintro e w' ⟨rfl, hB⟩; replace HB := hidB HB hB; clear hB))
  go_ret
  exact ⟨rfl, HB.out⟩
theorem sums_walk (a b : Nat) (ha : a < 18446744073709551616) (hb : b < 18446744073709551616) (w : World) :
    Calls Try.prog 4 #[.int .u64 a, .int .u64 b] w fun e w' => e = .returned (.bool true) ∧ Below w.heap.size w w' := by
  have HB : Hid (Below w.heap.size w w) := Lib.hid (Below.refl _ _)
  go_enter Try.func4, Try.ntmps4
  go_wp2_with (first
    | (go_at_call 14; (with_reducible refine (b_drew (add_in a b _)).mono ?_); rintro e w' ⟨rfl, hB⟩; replace HB := hidB HB hB; clear hB)
    | (go_at_call 15; (with_reducible refine (b_drew (addR_in a b _)).mono ?_); rintro e w' ⟨rfl, hB⟩; replace HB := hidB HB hB; clear hB)
    | (go_at_call 16; (with_reducible refine (b_drew (mul_in a b _)).mono ?_); rintro e w' ⟨rfl, hB⟩; replace HB := hidB HB hB; clear hB)
    | (go_at_call 17; (with_reducible refine (b_drew (mulR_in a b _)).mono ?_); rintro e w' ⟨rfl, hB⟩; replace HB := hidB HB hB; clear hB)
    | (go_at_call 18; (with_reducible refine (b_drew (div_in a b _)).mono ?_); rintro e w' ⟨rfl, hB⟩; replace HB := hidB HB hB; clear hB)
    | (go_at_call 19; (with_reducible refine (b_drew (divR_in a b _)).mono ?_); rintro e w' ⟨rfl, hB⟩; replace HB := hidB HB hB; clear hB)
    | (go_at_call 11; (with_reducible refine (awake_in _).mono ?_); rintro e w' ⟨rfl, hB⟩; replace HB := hidB HB hB; clear hB))
  go_ret
  exact ⟨rfl, HB.out⟩
theorem intE_is (a : Nat) : ∃ (n : Int) (t : Bool), intE a = .returned (.tuple #[.int .i32 n, .bool t]) := by
  unfold intE
  cases intV a with
  | none => exact ⟨_, _, rfl⟩
  | some n => exact ⟨_, _, rfl⟩
theorem ofR_nanB (n : Int) : nanB (ofR n) = false := write_nanB (.number (decide (n < 0)) n.natAbs 0) rfl
theorem ofR_b (n : Int) (w : World) :
    Calls Try.prog 29 #[.int .i32 n] w fun e w' => e = .returned (.int .u64 (ofR n)) ∧ Below w.heap.size w w' := by
  have h := b_same (ofR_in n w)
  rw [canon_of (ofR_nanB n)] at h
  exact h
set_option maxRecDepth 10000 in
theorem picks_walk (a b : Nat) (ha : a < 18446744073709551616) (hb : b < 18446744073709551616) (way n : Int) (w : World) :
    Calls Try.prog 6 #[.int .u64 a, .int .u64 b, .int .i64 way, .int .i32 n] w fun e w' => e = .returned (.bool true) ∧ Below w.heap.size w w' := by
  have HB : Hid (Below w.heap.size w w) := Lib.hid (Below.refl _ _)
  obtain ⟨m, t, hE⟩ := intE_is a
  have i1 := fun w => b_drew (int_in a ha w)
  have i2 := fun w => b_same (intR_in a ha w)
  rw [hE] at i1 i2
  have I1 := Lib.hid i1; have I2 := Lib.hid i2
  clear hE i1 i2
  go_enter Try.func6, Try.ntmps6
  go_wp2_with (first
    | (go_at_call 21; (with_reducible refine (I1.out _).mono ?_); rintro e w' ⟨rfl, hB⟩; replace HB := hidB HB hB; clear hB)
    | (go_at_call 22; (with_reducible refine (I2.out _).mono ?_); rintro e w' ⟨rfl, hB⟩; replace HB := hidB HB hB; clear hB)
    | (go_at_call 23; (with_reducible refine (min_in a b ha hb _).mono ?_); rintro e w' ⟨rfl, hB⟩; replace HB := hidB HB hB; clear hB)
    | (go_at_call 24; (with_reducible refine (b_same (minR_in a b ha hb _)).mono ?_); rintro e w' ⟨rfl, hB⟩; replace HB := hidB HB hB; clear hB)
    | (go_at_call 25; (with_reducible refine (max_in a b ha hb _).mono ?_); rintro e w' ⟨rfl, hB⟩; replace HB := hidB HB hB; clear hB)
    | (go_at_call 26; (with_reducible refine (b_same (maxR_in a b ha hb _)).mono ?_); rintro e w' ⟨rfl, hB⟩; replace HB := hidB HB hB; clear hB)
    | (go_at_call 12; (with_reducible refine (b_drew (round_in a way _)).mono ?_); rintro e w' ⟨rfl, hB⟩; replace HB := hidB HB hB; clear hB)
    | (go_at_call 27; (with_reducible refine (b_same (roundR_in a way ha _)).mono ?_); rintro e w' ⟨rfl, hB⟩; replace HB := hidB HB hB; clear hB)
    | (go_at_call 28; (with_reducible refine (b_same (of_in n _)).mono ?_); rintro e w' ⟨rfl, hB⟩; replace HB := hidB HB hB; clear hB)
    | (go_at_call 29; (with_reducible refine (ofR_b n _).mono ?_); rintro e w' ⟨rfl, hB⟩; replace HB := hidB HB hB; clear hB)
    | (go_at_call 11; (with_reducible refine (awake_in _).mono ?_); rintro e w' ⟨rfl, hB⟩; replace HB := hidB HB hB; clear hB))
  go_ret
  exact ⟨rfl, HB.out⟩
theorem tells_row (a b : Int) (wa : (Lit.int .u64 a).wf = true) (wb : (Lit.int .u64 b).wf = true) (w : World) :
    Calls Try.prog 9 #[.int .u64 a, .int .u64 b] w fun e w' => e = .returned (.bool true) ∧ Below w.heap.size w w' := by
  obtain ⟨n, rfl, hn⟩ := nat_of_u64 wa
  obtain ⟨m, rfl, hm⟩ := nat_of_u64 wb
  exact tells_walk n m hn hm w
theorem sums_row (a b : Int) (wa : (Lit.int .u64 a).wf = true) (wb : (Lit.int .u64 b).wf = true) (w : World) :
    Calls Try.prog 4 #[.int .u64 a, .int .u64 b] w fun e w' => e = .returned (.bool true) ∧ Below w.heap.size w w' := by
  obtain ⟨n, rfl, hn⟩ := nat_of_u64 wa
  obtain ⟨m, rfl, hm⟩ := nat_of_u64 wb
  exact sums_walk n m hn hm w
theorem picks_row (a b way k : Int) (wa : (Lit.int .u64 a).wf = true) (wb : (Lit.int .u64 b).wf = true) (w : World) :
    Calls Try.prog 6 #[.int .u64 a, .int .u64 b, .int .i64 way, .int .i32 k] w fun e w' => e = .returned (.bool true) ∧ Below w.heap.size w w' := by
  obtain ⟨n, rfl, hn⟩ := nat_of_u64 wa
  obtain ⟨m, rfl, hm⟩ := nat_of_u64 wb
  exact picks_walk n m hn hm way k w
end Go.Proofs.Ytckdbgejpagkpaa
