/-
  Where a signal's frame is: the program's frame.Place.
-/
import Derived.Test.YtbaelhaajplbnaaFSig
import Derived.Lib.Hide
import Derived.Deep.CutBlock
namespace Go.Proofs.Ytbaelhaajplbnaa
open Go Go.RowKit
set_option linter.unusedVariables false
set_option linter.unusedSimpArgs false

theorem is_in (n : Int) (h1 : 1 ≤ n) (h2 : n ≤ 64) (w : World) :
    Calls Try.prog 13 #[.int .i64 n] w fun e w' => e = .returned (.bool true) ∧ w' = w := by
  go_enter Try.func13, Try.ntmps13
  go_wp2
  all_goals go_ret
  all_goals exact ⟨by simp <;> omega, rfl⟩

def hasF (cs : Array Value) (n : Nat) (flag : Int) : Bool := bits BinOp.and .u32 (iat cs (2 + n * 3)) flag != 0

theorem has_in (cs : Array Value) (h : Fits sigK cs.toList) (k : Nat) (hk : k < 64) (flag : Int) (w : World) :
    Calls Try.prog 14 #[.agg cs, .int .i64 ((k : Int) + 1), .int .u32 flag] w fun e w' => e = .returned (.bool (hasF cs k flag)) ∧ w' = w.alloc (.cells cs 40) := by
  have e0 := (h.iat (sigK_fl k hk)).1
  clear h
  go_enter Try.func14, Try.ntmps14
  go_wp2
  go_ret
  exact ⟨by simp [hasF], rfl⟩

theorem sizes_any (b : Bool) (w : World) :
    Calls Try.prog 30 #[.bool b] w fun e w' => e = .returned (.tuple #[.int .u32 (if b then 784 else 632), .int .u32 (if b then 176 else 24)]) ∧ w' = w := by
  cases b
  all_goals
    go_enter Try.func30, Try.ntmps30
    go_wp2
    go_ret2
    exact ⟨rfl, rfl⟩

/-- The stack's top that is taken. -/
def topF (c s : Array Value) (k : Nat) : Int :=
  if hasF s k 134217728 && (bat s 196 && decide (iat s 195 ≤ (iat c 29 - iat s 194) % 4294967296)) then (iat s 194 + iat s 195) % 4294967296 else iat c 29
def placeF (c s : Array Value) (k : Nat) : Int :=
  bits BinOp.andNot .u32 ((topF c s k - (if hasF s k 8 then 784 else 632)) % 4294967296) 7

theorem sig_u : Try.prog.underlying 40 = Try.prog.underlying 40 := rfl

set_option maxHeartbeats 2000000 in
set_option maxRecDepth 10000 in
theorem place_in (c s : Array Value) (hc : Fits cpuK c.toList) (hs : Fits sigK s.toList) (k : Nat) (hk : k < 64) (w : World) :
    Calls Try.prog 12 #[.agg c, .agg s, .int .i64 ((k : Int) + 1)] w fun e w' => e = .returned (.int .u32 (placeF c s k)) ∧ Below w.heap.size w w' := by
  have hsz : (Try.prog.info? 40).map (·.size) = some s.size := by rw [hs.arr_size]; kernel_rfl
  have HSZ := Lib.hid hsz; clear hsz
  have c29 := hc.iat (i := 29) rfl
  have s194 := hs.iat (i := 194) rfl
  have s195 := hs.iat (i := 195) rfl
  have s196 := hs.bat (i := 196) rfl
  rw [wf_u32] at c29 s194 s195
  obtain ⟨c29, c29a, c29b⟩ := c29
  obtain ⟨s194, s194a, s194b⟩ := s194
  obtain ⟨s195, s195a, s195b⟩ := s195
  have HS := Lib.hid hs
  clear hc hs
  cases a4 : hasF s k 8 <;> cases a1 : hasF s k 134217728 <;> cases a2 : bat s 196 <;> rw [a2] at s196
  all_goals
    have A1 := Lib.hid a1; have A2 := Lib.hid a2; have A4 := Lib.hid a4
    clear a1 a2 a4
    go_enter Try.func12, Try.ntmps12
    go_upto_region 5 with (first
      | (go_at_call 13; refine (is_in _ (by omega) (by omega) _).mono ?_; rintro e w' ⟨rfl, rfl⟩)
      | (go_at_call 14; refine (has_in s HS.out k hk _ _).mono ?_; rintro e w' ⟨rfl, rfl⟩; first | rw [A1.out] | rw [A4.out])
      | (go_at_call 30; refine (sizes_any _ _).mono ?_; rintro e w' ⟨rfl, rfl⟩))
    refine wp_region_lit ?_
    refine wpList_load_row rfl 40 (.tmp 4) rfl (w.heap.size + 1) rfl 40 s (0, 0) _ ?_ Try.underlying40 rfl HSZ.out ?_
    · (repeat (refine (heap_old _ _ _ (by simp only [heap_len]; omega)).trans ?_)); exact heap_new _ _ _ (by simp only [heap_len])
    go_upto_region 7 with (first
      | (go_at_call 13; refine (is_in _ (by omega) (by omega) _).mono ?_; rintro e w' ⟨rfl, rfl⟩)
      | (go_at_call 14; refine (has_in s HS.out k hk _ _).mono ?_; rintro e w' ⟨rfl, rfl⟩; first | rw [A1.out] | rw [A4.out])
      | (go_at_call 30; refine (sizes_any _ _).mono ?_; rintro e w' ⟨rfl, rfl⟩))
    all_goals
      refine wp_region_lit ?_
      refine wpList_load_row rfl 40 (.tmp 4) rfl (w.heap.size + 1) rfl 40 s (0, 0) _ ?_ Try.underlying40 rfl HSZ.out ?_
      · (repeat (refine (heap_old _ _ _ (by simp only [heap_len]; omega)).trans ?_)); exact heap_new _ _ _ (by simp only [heap_len])
      go_wp2_with (first
      | (go_at_call 13; refine (is_in _ (by omega) (by omega) _).mono ?_; rintro e w' ⟨rfl, rfl⟩)
      | (go_at_call 14; refine (has_in s HS.out k hk _ _).mono ?_; rintro e w' ⟨rfl, rfl⟩; first | rw [A1.out] | rw [A4.out])
      | (go_at_call 30; refine (sizes_any _ _).mono ?_; rintro e w' ⟨rfl, rfl⟩))
      go_ret
      exact ⟨by first | (simp [placeF, topF, A1.out, A2.out, A4.out, *]; done) | (simp [placeF, topF, A1.out, A2.out, A4.out]; rw [if_neg (by omega)]), ((Below.refl _ _).alloc (Nat.le_refl _) _).alloc (by simp only [heap_len]; omega) _ |>.alloc (by simp only [heap_len]; omega) _ |>.alloc (by simp only [heap_len]; omega) _⟩

theorem fit11_any (c : Array Value) (hc : Fits cpuK c.toList) (w : World) :
    Calls Try.prog 28 #[.agg c] w fun e w' => e = .returned (.bool (iat c 0 == 0)) ∧ w' = w.alloc (.cells c 25) := by
  have c0 := (hc.iat (i := 0) rfl).1
  clear hc
  go_enter Try.func28, Try.ntmps28
  go_wp2
  go_ret
  exact ⟨rfl, rfl⟩

theorem fit27_any (c : Array Value) (hc : Fits cpuK c.toList) (w : World) :
    Calls Try.prog 10 #[.agg c] w fun e w' => e = .returned (.bool (iat c 0 == 0)) ∧ w' = (w.alloc (.cells c 25)).alloc (.cells c 25) := by
  have hsz : (Try.prog.info? 25).map (·.size) = some c.size := by rw [hc.arr_size]; kernel_rfl
  have HSZ := Lib.hid hsz; clear hsz
  have HC := Lib.hid hc; clear hc
  go_enter Try.func10, Try.ntmps10
  go_upto_region 1 with (fail)
  refine wp_region_lit ?_
  refine wpList_load_row rfl 25 (.tmp 1) rfl w.heap.size rfl 25 c (0, 0) _ ?_ Try.underlying25 rfl HSZ.out ?_
  · exact heap_new _ _ _ rfl
  go_wp2_with (go_at_call 28; refine (fit11_any c HC.out _).mono ?_; rintro e w' ⟨rfl, rfl⟩)
  go_ret
  exact ⟨rfl, rfl⟩

end Go.Proofs.Ytbaelhaajplbnaa
