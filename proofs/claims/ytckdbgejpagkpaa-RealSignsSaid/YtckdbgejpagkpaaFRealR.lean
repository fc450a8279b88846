/-
  Numbers with a point: the callees as the laws meet them; chapter 2's examples.
-/
import Derived.Test.YtckdbgejpagkpaaFRealQ
namespace Go.Proofs.Ytckdbgejpagkpaa
open Go Go.RowKit
set_option linter.unusedVariables false
set_option linter.unusedSimpArgs false

theorem hidB {w0 w w' : World} (h : Hid (Below w0.heap.size w0 w)) (k : Below w.heap.size w w') : Hid (Below w0.heap.size w0 w') := Lib.hid (h.out.trans (k.mono h.out.size))
theorem b_same {P : Program} {f : FuncId} {args : Array Value} {w : World} {r : Ending} (h : Calls P f args w fun e w' => e = r ∧ w = w') : Calls P f args w fun e w' => e = r ∧ Below w.heap.size w w' :=
  h.mono fun _ _ ⟨he, hw⟩ => ⟨he, hw ▸ Below.refl _ _⟩
theorem b_drew {P : Program} {f : FuncId} {args : Array Value} {w : World} {r : Ending} (h : Calls P f args w fun e w' => e = r ∧ ∃ n, w' = w.drewN n) : Calls P f args w fun e w' => e = r ∧ Below w.heap.size w w' :=
  h.mono fun _ _ ⟨he, n, hw⟩ => ⟨he, hw ▸ below_drw (Below.refl _ _) n⟩

theorem lit (n : Nat) {P : Program} {f : FuncId} {w : World} {R : Ending → World → Prop} {m : Int} (hm : (n : Int) = m) (h : Calls P f #[.int .u64 (n : Int)] w R) : Calls P f #[.int .u64 m] w R := hm ▸ h
theorem lit2 (n k : Nat) {P : Program} {f : FuncId} {w : World} {R : Ending → World → Prop} {m l : Int} (hm : (n : Int) = m) (hl : (k : Int) = l) (h : Calls P f #[.int .u64 (n : Int), .int .u64 (k : Int)] w R) : Calls P f #[.int .u64 m, .int .u64 l] w R := hm ▸ hl ▸ h
theorem litw (n : Nat) {P : Program} {f : FuncId} {w : World} {R : Ending → World → Prop} {m l : Int} (hm : (n : Int) = m) (h : Calls P f #[.int .u64 (n : Int), .int .i64 l] w R) : Calls P f #[.int .u64 m, .int .i64 l] w R := hm ▸ h
theorem retR {x : Nat} {m : Int} {P : Program} {f : FuncId} {args : Array Value} {w : World} (hx : (x : Int) = m) (h : Calls P f args w fun e w' => e = .returned (.int .u64 (x : Int)) ∧ Below w.heap.size w w') : Calls P f args w fun e w' => e = .returned (.int .u64 m) ∧ Below w.heap.size w w' := hx ▸ h
theorem aw1 (w : World) : Calls Try.prog 21 #[.int .u64 4746794007248502784] w fun e w' => e = .returned (.tuple #[.int .i32 2147483647, .bool false]) ∧ Below w.heap.size w w' := by
  have e1 : intE 4746794007248502784 = .returned (.tuple #[.int .i32 2147483647, .bool false]) := by
    have : intV 4746794007248502784 = none := by decide +kernel
    unfold intE; rw [this]
  have h := b_drew (int_in 4746794007248502784 (by decide) w)
  rw [e1] at h
  exact lit 4746794007248502784 rfl h
theorem aw2 (w : World) : Calls Try.prog 14 #[.int .u64 9218868437227405312, .int .u64 18442240474082181120] w fun e w' => e = .returned (.int .u64 9221120237041090560) ∧ Below w.heap.size w w' :=
  retR (x := opR .add 9218868437227405312 18442240474082181120) (by decide +kernel) (lit2 9218868437227405312 18442240474082181120 rfl rfl (b_drew (add_in _ _ w)))
theorem aw3 (w : World) : Calls Try.prog 23 #[.int .u64 0, .int .u64 9223372036854775808] w fun e w' => e = .returned (.int .u64 9223372036854775808) ∧ Below w.heap.size w w' :=
  retR (x := pickR 0 9223372036854775808 true) (by decide +kernel) (lit2 0 9223372036854775808 rfl rfl (min_in _ _ (by decide) (by decide) w))
theorem aw4 (w : World) : Calls Try.prog 12 #[.int .u64 13826050856027422720, .int .i64 2] w fun e w' => e = .returned (.int .u64 9223372036854775808) ∧ Below w.heap.size w w' :=
  retR (x := roundD 13826050856027422720 2) (by decide +kernel) (litw 13826050856027422720 rfl (b_drew (round_in _ 2 w)))
theorem aw5 (w : World) : Calls Try.prog 12 #[.int .u64 4612811918334230528, .int .i64 3] w fun e w' => e = .returned (.int .u64 4611686018427387904) ∧ Below w.heap.size w w' :=
  retR (x := roundD 4612811918334230528 3) (by decide +kernel) (litw 4612811918334230528 rfl (b_drew (round_in _ 3 w)))
theorem aw6 (w : World) : Calls Try.prog 18 #[.int .u64 13830554455654793216, .int .u64 0] w fun e w' => e = .returned (.int .u64 18442240474082181120) ∧ Below w.heap.size w w' :=
  retR (x := opR .quo 13830554455654793216 0) (by decide +kernel) (lit2 13830554455654793216 0 rfl rfl (b_drew (div_in _ _ w)))
theorem awake_in (w : World) : Calls Try.prog 11 #[] w fun e w' => e = .returned (.bool true) ∧ Below w.heap.size w w' := by
  have HB : Hid (Below w.heap.size w w) := Lib.hid (Below.refl _ _)
  go_enter Try.func11, Try.ntmps11
  go_wp2_with (first
    | (go_at_call 21; (with_reducible refine (aw1 _).mono ?_); rintro e w' ⟨rfl, hB⟩; replace HB := hidB HB hB; clear hB)
    | (go_at_call 14; (with_reducible refine (aw2 _).mono ?_); rintro e w' ⟨rfl, hB⟩; replace HB := hidB HB hB; clear hB)
    | (go_at_call 23; (with_reducible refine (aw3 _).mono ?_); rintro e w' ⟨rfl, hB⟩; replace HB := hidB HB hB; clear hB)
    | (go_at_call 12; (with_reducible refine (aw4 _).mono ?_); rintro e w' ⟨rfl, hB⟩; replace HB := hidB HB hB; clear hB)
    | (go_at_call 12; (with_reducible refine (aw5 _).mono ?_); rintro e w' ⟨rfl, hB⟩; replace HB := hidB HB hB; clear hB)
    | (go_at_call 18; (with_reducible refine (aw6 _).mono ?_); rintro e w' ⟨rfl, hB⟩; replace HB := hidB HB hB; clear hB))
  go_ret
  exact ⟨rfl, HB.out⟩
end Go.Proofs.Ytckdbgejpagkpaa
