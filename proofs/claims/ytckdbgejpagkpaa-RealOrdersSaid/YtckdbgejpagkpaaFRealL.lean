/-
  Numbers with a point: what is thrown where one is none, and caught.
-/
import Derived.Test.YtckdbgejpagkpaaFRealK
import Derived.Recover
import Derived.Deep.RegionWith
import Derived.Tactics2
namespace Go.Proofs.Ytckdbgejpagkpaa
open Go Go.RowKit
set_option linter.unusedVariables false
set_option linter.unusedSimpArgs false

/-- What is thrown. -/
def thrown : List PanicEntry := [{ v := .iface 48 (.agg #[]), recovered := false }]
theorem number_ok (n : Nat) (hn : nanB n = false) (w : World) :
    Calls Try.prog 42 #[.int .u64 n] w fun e w' => e = .returned (.float .f64 n) ∧ w = w' := by
  go_enter Try.func42, Try.ntmps42
  go_wp2_with (first
    | (go_at_call 31; refine (point_in _ _).mono ?_; rintro e w' ⟨rfl, rfl⟩)
    | (go_at_call 49; refine (isNaN_in _ _).mono ?_; rintro e w' ⟨rfl, rfl⟩; rw [hn]))
  go_ret
  exact ⟨rfl, rfl⟩
theorem number_nan (n : Nat) (hn : nanB n = true) (w : World) :
    Calls Try.prog 42 #[.int .u64 n] w fun e w' => e = .panicked thrown ∧ w = w' := by
  go_enter Try.func42, Try.ntmps42
  go_wp2_with (first
    | (go_at_call 31; refine (point_in _ _).mono ?_; rintro e w' ⟨rfl, rfl⟩)
    | (go_at_call 49; refine (isNaN_in _ _).mono ?_; rintro e w' ⟨rfl, rfl⟩; rw [hn]))
  exact ⟨rfl, rfl, rfl⟩
theorem one1_ok (n : Nat) (p : Addr) (hn : nanB n = false) (w : World) (hc : w.cell? p = some (.int .u64 n)) :
    Calls Try.prog 59 #[.pointer (some p)] w fun e w' => e = .returned (.tuple #[]) ∧ w = w' := by
  go_enter Try.func59, Try.ntmps59
  go_wp2_with (go_at_call 42; refine (number_ok _ hn _).mono ?_; rintro e w' ⟨rfl, rfl⟩)
  go_end0
  exact ⟨rfl, rfl⟩
theorem one1_nan (n : Nat) (p : Addr) (hn : nanB n = true) (w : World) (hc : w.cell? p = some (.int .u64 n)) :
    Calls Try.prog 59 #[.pointer (some p)] w fun e w' => e = .panicked thrown ∧ w = w' := by
  go_enter Try.func59, Try.ntmps59
  go_wp2_with (go_at_call 42; refine (number_nan _ hn _).mono ?_; rintro e w' ⟨rfl, rfl⟩)
  exact ⟨rfl, rfl, rfl⟩
theorem one2_ok (n : Nat) (p : Addr) (hn : nanB n = false) (w : World) (hc : w.cell? p = some (.int .u64 n)) :
    Calls Try.prog 60 #[.pointer (some p)] w fun e w' => e = .returned (.tuple #[]) ∧ w = w' := by
  go_enter Try.func60, Try.ntmps60
  go_wp2_with (go_at_call 42; refine (number_ok _ hn _).mono ?_; rintro e w' ⟨rfl, rfl⟩)
  go_end0
  exact ⟨rfl, rfl⟩
theorem one2_nan (n : Nat) (p : Addr) (hn : nanB n = true) (w : World) (hc : w.cell? p = some (.int .u64 n)) :
    Calls Try.prog 60 #[.pointer (some p)] w fun e w' => e = .panicked thrown ∧ w = w' := by
  go_enter Try.func60, Try.ntmps60
  go_wp2_with (go_at_call 42; refine (number_nan _ hn _).mono ?_; rintro e w' ⟨rfl, rfl⟩)
  exact ⟨rfl, rfl, rfl⟩
theorem order1_ok (a b : Nat) (p q r : Addr) (ha : nanB a = false) (hb : nanB b = false) (w : World) (hp : w.cell? p = some (.int .u64 a)) (hq : w.cell? q = some (.int .u64 b)) (hr : w.cell? r = some (.int .i64 2)) (hz : w.frozen? r = false) :
    Calls Try.prog 41 #[.pointer (some p), .pointer (some q), .pointer (some r)] w fun e w' => e = .returned (.tuple #[]) ∧ ∃ n, w' = (w.drewN n).setCell r (.int .i64 (cmpR a b)) := by
  have g1 := lt_of ha hb
  have g2 := gt_of ha hb
  have hc : cmpR a b = if decide (rank a < rank b) then -1 else if decide (rank b < rank a) then 1 else 0 := by
    unfold cmpR; rw [ha, hb]; simp
  cases l1 : decide (rank a < rank b)
  · cases l2 : decide (rank b < rank a)
    all_goals
      rw [l1] at g1 hc
      rw [l2] at g2 hc
      clear l1 l2
      have HC := Lib.hid hc; clear hc
      go_enter Try.func41, Try.ntmps41
      go_wp2_with fail
      go_quiet ((first | (go_at_call 42; exact Calls.quiet_of_same ((number_ok _ (by assumption) _).mono fun _ _ h => ⟨h.1, h.2.symm⟩))))
      go_wp2
      go_end0
      exact ⟨rfl, _, by rw [HC.out]; rfl⟩
  · rw [l1] at g1 hc
    clear g2 l1
    have HC := Lib.hid hc; clear hc
    go_enter Try.func41, Try.ntmps41
    go_wp2_with fail
    go_quiet ((first | (go_at_call 42; exact Calls.quiet_of_same ((number_ok _ (by assumption) _).mono fun _ _ h => ⟨h.1, h.2.symm⟩))))
    go_wp2
    go_end0
    exact ⟨rfl, _, by rw [HC.out]; rfl⟩
def Threw (w : World) (e : Ending) (w' : World) : Prop := e = .panicked thrown ∧ ∃ n, w' = w.drewN n
set_option maxHeartbeats 2000000 in
theorem order1_nan (a b : Nat) (p q r : Addr) (hn : nanB a = true ∨ nanB b = true) (w : World) (hp : w.cell? p = some (.int .u64 a)) (hq : w.cell? q = some (.int .u64 b)) :
    Calls Try.prog 41 #[.pointer (some p), .pointer (some q), .pointer (some r)] w (Threw w) := by
  cases ha : nanB a
  · have hb : nanB b = true := by rw [ha] at hn; simpa using hn
    clear hn
    go_enter Try.func41, Try.ntmps41
    go_wp2_with fail
    refine wp_region_any (by kernel_rfl) ?_
    change wpAny _ _ _ _ _ _ _ (World.drew _)
    refine wpAny_ready (rs := [0, 2]) (by kernel_rfl) (by simp) ?_
    refine AllReady.cons rfl (fun K hK => ?_) ?_
    · go_simp
      refine hK _ _ ?_
      clear hK K
      refine wpAny_ready (rs := [1, 2]) (by kernel_rfl) (by simp) ?_
      refine AllReady.cons rfl (fun K hK => ?_) ?_
      · go_simp
        go_wp2_with (go_at_call 42; (with_reducible refine (number_ok a ha _).mono ?_); rintro e w' ⟨rfl, rfl⟩)
        refine wpAny_ready (rs := [2]) (by kernel_rfl) (by simp) ?_
        refine AllReady.cons rfl (fun K hK => ?_) AllReady.nil
        go_simp
        refine hK _ _ ?_
        clear hK K
        refine wpAny_ready (rs := [3]) (by kernel_rfl) (by simp) ?_
        refine AllReady.cons rfl (fun K hK => ?_) AllReady.nil
        go_simp
        go_wp2_with (go_at_call 42; (with_reducible refine (number_nan b hb _).mono ?_); rintro e w' ⟨rfl, rfl⟩)
        exact ⟨rfl, rfl, 1, rfl⟩
      refine AllReady.cons rfl (fun K hK => ?_) AllReady.nil
      go_simp
      refine hK _ _ ?_
      clear hK K
      refine wpAny_ready (rs := [1]) (by kernel_rfl) (by simp) ?_
      refine AllReady.cons rfl (fun K hK => ?_) AllReady.nil
      go_simp
      go_wp2_with (go_at_call 42; (with_reducible refine (number_ok a ha _).mono ?_); rintro e w' ⟨rfl, rfl⟩)
      refine wpAny_ready (rs := [3]) (by kernel_rfl) (by simp) ?_
      refine AllReady.cons rfl (fun K hK => ?_) AllReady.nil
      go_simp
      go_wp2_with (go_at_call 42; (with_reducible refine (number_nan b hb _).mono ?_); rintro e w' ⟨rfl, rfl⟩)
      exact ⟨rfl, rfl, 1, rfl⟩
    refine AllReady.cons rfl (fun K hK => ?_) AllReady.nil
    go_simp
    refine hK _ _ ?_
    clear hK K
    refine wpAny_ready (rs := [0]) (by kernel_rfl) (by simp) ?_
    refine AllReady.cons rfl (fun K hK => ?_) AllReady.nil
    go_simp
    refine hK _ _ ?_
    clear hK K
    refine wpAny_ready (rs := [1]) (by kernel_rfl) (by simp) ?_
    refine AllReady.cons rfl (fun K hK => ?_) AllReady.nil
    go_simp
    go_wp2_with (go_at_call 42; (with_reducible refine (number_ok a ha _).mono ?_); rintro e w' ⟨rfl, rfl⟩)
    refine wpAny_ready (rs := [3]) (by kernel_rfl) (by simp) ?_
    refine AllReady.cons rfl (fun K hK => ?_) AllReady.nil
    go_simp
    go_wp2_with (go_at_call 42; (with_reducible refine (number_nan b hb _).mono ?_); rintro e w' ⟨rfl, rfl⟩)
    exact ⟨rfl, rfl, 1, rfl⟩
  · clear hn
    go_enter Try.func41, Try.ntmps41
    go_wp2_with fail
    refine wp_region_any (by kernel_rfl) ?_
    change wpAny _ _ _ _ _ _ _ (World.drew _)
    refine wpAny_ready (rs := [0, 2]) (by kernel_rfl) (by simp) ?_
    refine AllReady.cons rfl (fun K hK => ?_) ?_
    · go_simp
      refine hK _ _ ?_
      clear hK K
      refine wpAny_ready (rs := [1, 2]) (by kernel_rfl) (by simp) ?_
      refine AllReady.cons rfl (fun K hK => ?_) ?_
      · go_simp
        go_wp2_with (go_at_call 42; (with_reducible refine (number_nan a ha _).mono ?_); rintro e w' ⟨rfl, rfl⟩)
        exact ⟨rfl, rfl, 1, rfl⟩
      refine AllReady.cons rfl (fun K hK => ?_) AllReady.nil
      go_simp
      refine hK _ _ ?_
      clear hK K
      refine wpAny_ready (rs := [1]) (by kernel_rfl) (by simp) ?_
      refine AllReady.cons rfl (fun K hK => ?_) AllReady.nil
      go_simp
      go_wp2_with (go_at_call 42; (with_reducible refine (number_nan a ha _).mono ?_); rintro e w' ⟨rfl, rfl⟩)
      exact ⟨rfl, rfl, 1, rfl⟩
    refine AllReady.cons rfl (fun K hK => ?_) AllReady.nil
    go_simp
    refine hK _ _ ?_
    clear hK K
    refine wpAny_ready (rs := [0]) (by kernel_rfl) (by simp) ?_
    refine AllReady.cons rfl (fun K hK => ?_) AllReady.nil
    go_simp
    refine hK _ _ ?_
    clear hK K
    refine wpAny_ready (rs := [1]) (by kernel_rfl) (by simp) ?_
    refine AllReady.cons rfl (fun K hK => ?_) AllReady.nil
    go_simp
    go_wp2_with (go_at_call 42; (with_reducible refine (number_nan a ha _).mono ?_); rintro e w' ⟨rfl, rfl⟩)
    exact ⟨rfl, rfl, 1, rfl⟩
end Go.Proofs.Ytckdbgejpagkpaa
