/-
  Numbers with a point: RealRounds walked.
-/
import Derived.Test.YtckdbgejpagkpaaFRealT
namespace Go.Proofs.Ytckdbgejpagkpaa
open Go Go.RowKit
set_option linter.unusedVariables false
set_option linter.unusedSimpArgs false

theorem write_lt' (d : Ieee.Datum) : Ieee.double.write d < 18446744073709551616 := Ieee.Format.write_lt _ d
theorem cutR_lt (t : Ieee.Toward) (a : Nat) : cutR t a < 18446744073709551616 := write_lt' _
theorem round_cut (a : Nat) (hn : nanB a = false) (k : Int) (t : Ieee.Toward) (hk : k = 0 ∨ k = 1 ∨ k = 2 ∨ k = 3) (ht : wayOf k = t) (w : World) :
    Calls Try.prog 12 #[.int .u64 a, .int .i64 k] w fun e w' => e = .returned (.int .u64 (cutR t a)) ∧ Below w.heap.size w w' := by
  have h := b_drew (round_in a k w)
  rw [roundD_way a k hk, cutC, hn, ht] at h
  exact h
set_option maxRecDepth 10000 in
theorem rounds_core (a d u c v : Nat) (ha : a < 18446744073709551616) (hd : d < 18446744073709551616) (hu : u < 18446744073709551616) (hn : (clsR a == 4) = false)
    (f1 : ∀ w, Calls Try.prog 12 #[.int .u64 a, .int .i64 1] w fun e w' => e = .returned (.int .u64 d) ∧ Below w.heap.size w w')
    (f2 : ∀ w, Calls Try.prog 12 #[.int .u64 a, .int .i64 2] w fun e w' => e = .returned (.int .u64 u) ∧ Below w.heap.size w w')
    (f0 : ∀ w, Calls Try.prog 12 #[.int .u64 a, .int .i64 0] w fun e w' => e = .returned (.int .u64 c) ∧ Below w.heap.size w w')
    (f3 : ∀ w, Calls Try.prog 12 #[.int .u64 a, .int .i64 3] w fun e w' => e = .returned (.int .u64 v) ∧ Below w.heap.size w w')
    (o1 o2 : Int) (ho1 : cmpR d a = o1) (ho2 : cmpR u a = o2) (k1 : o1 ≤ 0) (k2 : 0 ≤ o2)
    (hc : c = d ∨ c = u) (hv : v = d ∨ v = u) (y : Bool) (hy1 : ((d : Int) == (u : Int)) = y) (hy2 : ((d : Int) == (a : Int)) = y) (w : World) :
    Calls Try.prog 3 #[.int .u64 a] w fun e w' => e = .returned (.bool true) ∧ Below w.heap.size w w' := by
  have HB : Hid (Below w.heap.size w w) := Lib.hid (Below.refl _ _)
  have F0 := Lib.hid f0; have F1 := Lib.hid f1; have F2 := Lib.hid f2; have F3 := Lib.hid f3
  have O1 := Lib.hid ho1; have O2 := Lib.hid ho2
  clear f0 f1 f2 f3 ho1 ho2
  have k3 : decide (0 < o1) = false := decide_eq_false (by omega)
  have k4 : decide (o2 < 0) = false := decide_eq_false (by omega)
  clear k1 k2
  obtain ⟨x, hx⟩ : ∃ x, x = ((c : Int) != (d : Int)) := ⟨_, rfl⟩
  obtain ⟨z, hz⟩ : ∃ z, z = ((v : Int) != (d : Int)) := ⟨_, rfl⟩
  have hx' : ((c : Int) != (d : Int)) = x := hx.symm
  have hz' : ((v : Int) != (d : Int)) = z := hz.symm
  have hxu : x = true → ((c : Int) != (u : Int)) = false := fun e => by
    rcases hc with k | k
    · rw [k] at hx'; simp at hx'; rw [hx'] at e; simp at e
    · rw [k]; simp
  have hzu : z = true → ((v : Int) != (u : Int)) = false := fun e => by
    rcases hv with k | k
    · rw [k] at hz'; simp at hz'; rw [hz'] at e; simp at e
    · rw [k]; simp
  clear hx hz hc hv
  cases x
  all_goals
    (first | (have hxu' := hxu rfl) | skip)
    clear hxu
    cases z
    all_goals
      (first | (have hzu' := hzu rfl) | skip)
      clear hzu
      cases y
      all_goals
        go_enter Try.func3, Try.ntmps3
        go_wp2_with (first
          | (go_at_call 10; (with_reducible refine (b_same (classR_in a ha _)).mono ?_); rintro e w' ⟨rfl, hB⟩; replace HB := hidB HB hB; clear hB)
          | (go_at_call 12; (with_reducible refine (F0.out _).mono ?_); rintro e w' ⟨rfl, hB⟩; replace HB := hidB HB hB; clear hB)
          | (go_at_call 12; (with_reducible refine (F1.out _).mono ?_); rintro e w' ⟨rfl, hB⟩; replace HB := hidB HB hB; clear hB)
          | (go_at_call 12; (with_reducible refine (F2.out _).mono ?_); rintro e w' ⟨rfl, hB⟩; replace HB := hidB HB hB; clear hB)
          | (go_at_call 12; (with_reducible refine (F3.out _).mono ?_); rintro e w' ⟨rfl, hB⟩; replace HB := hidB HB hB; clear hB)
          | (go_at_call 13; (with_reducible refine (b_same (orderR_in d a hd ha _)).mono ?_); rintro e w' ⟨rfl, hB⟩; rw [O1.out]; replace HB := hidB HB hB; clear hB)
          | (go_at_call 13; (with_reducible refine (b_same (orderR_in u a hu ha _)).mono ?_); rintro e w' ⟨rfl, hB⟩; rw [O2.out]; replace HB := hidB HB hB; clear hB)
          | (go_at_call 11; (with_reducible refine (awake_in _).mono ?_); rintro e w' ⟨rfl, hB⟩; replace HB := hidB HB hB; clear hB))
        go_ret
        exact ⟨rfl, HB.out⟩
theorem rounds_nan (a : Nat) (ha : a < 18446744073709551616) (hn : (clsR a == 4) = true) (w : World) :
    Calls Try.prog 3 #[.int .u64 a] w fun e w' => e = .returned (.bool true) ∧ Below w.heap.size w w' := by
  have HB : Hid (Below w.heap.size w w) := Lib.hid (Below.refl _ _)
  go_enter Try.func3, Try.ntmps3
  go_wp2_with (first
    | (go_at_call 10; (with_reducible refine (b_same (classR_in a ha _)).mono ?_); rintro e w' ⟨rfl, hB⟩; replace HB := hidB HB hB; clear hB)
    | (go_at_call 11; (with_reducible refine (awake_in _).mono ?_); rintro e w' ⟨rfl, hB⟩; replace HB := hidB HB hB; clear hB))
  go_ret
  exact ⟨rfl, HB.out⟩
theorem cmp_le (a b : Nat) (na : nanB a = false) (nb : nanB b = false) : (rank a ≤ rank b → cmpR a b ≤ 0) ∧ (rank b ≤ rank a → 0 ≤ cmpR a b) := by
  unfold cmpR
  rw [na, nb]
  simp only [Bool.or_self, Bool.false_eq_true, if_false]
  constructor <;> intro h <;> split <;> first | omega | (split <;> omega)
theorem rounds_row (a : Int) (wa : (Lit.int .u64 a).wf = true) (w : World) :
    Calls Try.prog 3 #[.int .u64 a] w fun e w' => e = .returned (.bool true) ∧ Below w.heap.size w w' := by
  obtain ⟨n, rfl, ha⟩ := nat_of_u64 wa
  have h4 := h4_any n
  cases hn : nanB n
  · rw [hn] at h4
    obtain ⟨r1, r2, r3, r4, r5⟩ := rounds_plain n ha hn
    have m1 := cutR_nanB hn .down
    have m2 := cutR_nanB hn .up
    refine rounds_core n (cutR .down n) (cutR .up n) (cutR .zero n) (cutR .even n) ha (cutR_lt _ _) (cutR_lt _ _) h4
      (round_cut n hn 1 .down (by omega) rfl) (round_cut n hn 2 .up (by omega) rfl) (round_cut n hn 0 .zero (by omega) rfl) (round_cut n hn 3 .even (by omega) rfl)
      _ _ rfl rfl ((cmp_le _ _ m1 hn).1 r1) ((cmp_le _ _ m2 hn).2 r2) r3 r4 (decide (cutR .down n = n)) ?_ ?_ w
    · rw [Bool.eq_iff_iff]; simp only [beq_iff_eq, decide_eq_true_eq, Int.ofNat_inj]; exact r5
    · rw [Bool.eq_iff_iff]; simp only [beq_iff_eq, decide_eq_true_eq, Int.ofNat_inj]
  · rw [hn] at h4
    exact rounds_nan n ha h4 w
end Go.Proofs.Ytckdbgejpagkpaa
