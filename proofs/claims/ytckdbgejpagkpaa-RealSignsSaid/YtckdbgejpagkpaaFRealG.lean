/-
  Numbers with a point: the document's way to a whole number, from 1 to 2^52, walked.
-/
import Derived.Test.YtckdbgejpagkpaaFRealF
namespace Go.Proofs.Ytckdbgejpagkpaa
open Go Go.RowKit
set_option linter.unusedVariables false
set_option linter.unusedSimpArgs false
set_option maxRecDepth 100000 in
theorem mid_pos0 (a x : Nat) (h : a < 18446744073709551616) (h4a : (clsR a == 4) = false) (h3a : (clsR a == 3) = false) (hx : (a : Int) / 4503599627370496 % 2048 = x) (hx1 : 1023 ≤ x) (hx2 : x ≤ 1074)
    (hs : (a : Int) / 9223372036854775808 * 9223372036854775808 = 0) 
    (d L : Nat) (hd : 52 - ((x : Int) - 1023) = d) (hd1 : 1 ≤ d) (hd2 : d ≤ 52) (hL : (2 : Int) ^ d = L) (hL1 : 2 ≤ L) (hL2 : (L : Int) ≤ 4503599627370496)
    (q n m g : Nat) (hq : (a : Int) % L = q) (hqL : q < L) (hqz : q ≤ a) (hn : (a : Int) - q = n) (hnL : (n : Int) + L ≤ 9223372036854775807) (hm : (n : Int) / L = m) (hm9 : (m : Int) ≤ 9223372036854775807) (hg : (L : Int) / 2 = g)
     (r : Nat) (hr : bits BinOp.or IntKind.u64 0 ((n : Int)) = r) (w : World) :
    Calls Try.prog 27 #[.int .u64 a, .int .i64 0] w fun e w' => e = .returned (.int .u64 r) ∧ w = w' := by
  have hone := or_one0
  go_enter Try.func27, Try.ntmps27
  go_wp2_with (go_at_call 10; refine (classR_in _ (by assumption) _).mono ?_; rintro e w' ⟨rfl, rfl⟩)
  all_goals go_ret
  all_goals first | exact ⟨rfl, rfl⟩ | exact ⟨ret_int hr, rfl⟩
set_option maxRecDepth 100000 in
theorem mid_pos1 (a x : Nat) (h : a < 18446744073709551616) (h4a : (clsR a == 4) = false) (h3a : (clsR a == 3) = false) (hx : (a : Int) / 4503599627370496 % 2048 = x) (hx1 : 1023 ≤ x) (hx2 : x ≤ 1074)
    (hs : (a : Int) / 9223372036854775808 * 9223372036854775808 = 0) 
    (d L : Nat) (hd : 52 - ((x : Int) - 1023) = d) (hd1 : 1 ≤ d) (hd2 : d ≤ 52) (hL : (2 : Int) ^ d = L) (hL1 : 2 ≤ L) (hL2 : (L : Int) ≤ 4503599627370496)
    (q n m g : Nat) (hq : (a : Int) % L = q) (hqL : q < L) (hqz : q ≤ a) (hn : (a : Int) - q = n) (hnL : (n : Int) + L ≤ 9223372036854775807) (hm : (n : Int) / L = m) (hm9 : (m : Int) ≤ 9223372036854775807) (hg : (L : Int) / 2 = g)
     (r : Nat) (hr : bits BinOp.or IntKind.u64 0 ((n : Int)) = r) (w : World) :
    Calls Try.prog 27 #[.int .u64 a, .int .i64 1] w fun e w' => e = .returned (.int .u64 r) ∧ w = w' := by
  have hone := or_one0
  go_enter Try.func27, Try.ntmps27
  go_wp2_with (go_at_call 10; refine (classR_in _ (by assumption) _).mono ?_; rintro e w' ⟨rfl, rfl⟩)
  all_goals go_ret
  all_goals first | exact ⟨rfl, rfl⟩ | exact ⟨ret_int hr, rfl⟩
set_option maxRecDepth 100000 in
theorem mid_pos2y (a x : Nat) (h : a < 18446744073709551616) (h4a : (clsR a == 4) = false) (h3a : (clsR a == 3) = false) (hx : (a : Int) / 4503599627370496 % 2048 = x) (hx1 : 1023 ≤ x) (hx2 : x ≤ 1074)
    (hs : (a : Int) / 9223372036854775808 * 9223372036854775808 = 0) 
    (d L : Nat) (hd : 52 - ((x : Int) - 1023) = d) (hd1 : 1 ≤ d) (hd2 : d ≤ 52) (hL : (2 : Int) ^ d = L) (hL1 : 2 ≤ L) (hL2 : (L : Int) ≤ 4503599627370496)
    (q n m g : Nat) (hq : (a : Int) % L = q) (hqL : q < L) (hqz : q ≤ a) (hn : (a : Int) - q = n) (hnL : (n : Int) + L ≤ 9223372036854775807) (hm : (n : Int) / L = m) (hm9 : (m : Int) ≤ 9223372036854775807) (hg : (L : Int) / 2 = g)
    (hp : 0 < q) (r : Nat) (hr : bits BinOp.or IntKind.u64 0 ((n : Int) + L) = r) (w : World) :
    Calls Try.prog 27 #[.int .u64 a, .int .i64 2] w fun e w' => e = .returned (.int .u64 r) ∧ w = w' := by
  have hone := or_one0
  go_enter Try.func27, Try.ntmps27
  go_wp2_with (go_at_call 10; refine (classR_in _ (by assumption) _).mono ?_; rintro e w' ⟨rfl, rfl⟩)
  all_goals go_ret
  all_goals first | exact ⟨rfl, rfl⟩ | exact ⟨ret_int hr, rfl⟩
set_option maxRecDepth 100000 in
theorem mid_pos2n (a x : Nat) (h : a < 18446744073709551616) (h4a : (clsR a == 4) = false) (h3a : (clsR a == 3) = false) (hx : (a : Int) / 4503599627370496 % 2048 = x) (hx1 : 1023 ≤ x) (hx2 : x ≤ 1074)
    (hs : (a : Int) / 9223372036854775808 * 9223372036854775808 = 0) 
    (d L : Nat) (hd : 52 - ((x : Int) - 1023) = d) (hd1 : 1 ≤ d) (hd2 : d ≤ 52) (hL : (2 : Int) ^ d = L) (hL1 : 2 ≤ L) (hL2 : (L : Int) ≤ 4503599627370496)
    (q n m g : Nat) (hq : (a : Int) % L = q) (hqL : q < L) (hqz : q ≤ a) (hn : (a : Int) - q = n) (hnL : (n : Int) + L ≤ 9223372036854775807) (hm : (n : Int) / L = m) (hm9 : (m : Int) ≤ 9223372036854775807) (hg : (L : Int) / 2 = g)
    (hp : decide (0 < q) = false) (r : Nat) (hr : bits BinOp.or IntKind.u64 0 ((n : Int)) = r) (w : World) :
    Calls Try.prog 27 #[.int .u64 a, .int .i64 2] w fun e w' => e = .returned (.int .u64 r) ∧ w = w' := by
  have hone := or_one0
  go_enter Try.func27, Try.ntmps27
  go_wp2_with (go_at_call 10; refine (classR_in _ (by assumption) _).mono ?_; rintro e w' ⟨rfl, rfl⟩)
  all_goals go_ret
  all_goals first | exact ⟨rfl, rfl⟩ | exact ⟨ret_int hr, rfl⟩
set_option maxRecDepth 100000 in
theorem mid_pos3a (a x : Nat) (h : a < 18446744073709551616) (h4a : (clsR a == 4) = false) (h3a : (clsR a == 3) = false) (hx : (a : Int) / 4503599627370496 % 2048 = x) (hx1 : 1023 ≤ x) (hx2 : x ≤ 1074)
    (hs : (a : Int) / 9223372036854775808 * 9223372036854775808 = 0) 
    (d L : Nat) (hd : 52 - ((x : Int) - 1023) = d) (hd1 : 1 ≤ d) (hd2 : d ≤ 52) (hL : (2 : Int) ^ d = L) (hL1 : 2 ≤ L) (hL2 : (L : Int) ≤ 4503599627370496)
    (q n m g : Nat) (hq : (a : Int) % L = q) (hqL : q < L) (hqz : q ≤ a) (hn : (a : Int) - q = n) (hnL : (n : Int) + L ≤ 9223372036854775807) (hm : (n : Int) / L = m) (hm9 : (m : Int) ≤ 9223372036854775807) (hg : (L : Int) / 2 = g)
    (hp : 0 < q) (hA : g < q) (r : Nat) (hr : bits BinOp.or IntKind.u64 0 ((n : Int) + L) = r) (w : World) :
    Calls Try.prog 27 #[.int .u64 a, .int .i64 3] w fun e w' => e = .returned (.int .u64 r) ∧ w = w' := by
  have hone := or_one0
  go_enter Try.func27, Try.ntmps27
  go_wp2_with (go_at_call 10; refine (classR_in _ (by assumption) _).mono ?_; rintro e w' ⟨rfl, rfl⟩)
  all_goals go_ret
  all_goals first | exact ⟨rfl, rfl⟩ | exact ⟨ret_int hr, rfl⟩
set_option maxRecDepth 100000 in
theorem mid_pos3b (a x : Nat) (h : a < 18446744073709551616) (h4a : (clsR a == 4) = false) (h3a : (clsR a == 3) = false) (hx : (a : Int) / 4503599627370496 % 2048 = x) (hx1 : 1023 ≤ x) (hx2 : x ≤ 1074)
    (hs : (a : Int) / 9223372036854775808 * 9223372036854775808 = 0) 
    (d L : Nat) (hd : 52 - ((x : Int) - 1023) = d) (hd1 : 1 ≤ d) (hd2 : d ≤ 52) (hL : (2 : Int) ^ d = L) (hL1 : 2 ≤ L) (hL2 : (L : Int) ≤ 4503599627370496)
    (q n m g : Nat) (hq : (a : Int) % L = q) (hqL : q < L) (hqz : q ≤ a) (hn : (a : Int) - q = n) (hnL : (n : Int) + L ≤ 9223372036854775807) (hm : (n : Int) / L = m) (hm9 : (m : Int) ≤ 9223372036854775807) (hg : (L : Int) / 2 = g)
    (hA : decide (g < q) = false) (hB : ((q : Int) == (g : Int)) = false) (r : Nat) (hr : bits BinOp.or IntKind.u64 0 ((n : Int)) = r) (w : World) :
    Calls Try.prog 27 #[.int .u64 a, .int .i64 3] w fun e w' => e = .returned (.int .u64 r) ∧ w = w' := by
  have hone := or_one0
  go_enter Try.func27, Try.ntmps27
  go_wp2_with (go_at_call 10; refine (classR_in _ (by assumption) _).mono ?_; rintro e w' ⟨rfl, rfl⟩)
  all_goals go_ret
  all_goals first | exact ⟨rfl, rfl⟩ | exact ⟨ret_int hr, rfl⟩
set_option maxRecDepth 100000 in
theorem mid_pos3c (a x : Nat) (h : a < 18446744073709551616) (h4a : (clsR a == 4) = false) (h3a : (clsR a == 3) = false) (hx : (a : Int) / 4503599627370496 % 2048 = x) (hx1 : 1023 ≤ x) (hx2 : x ≤ 1074)
    (hs : (a : Int) / 9223372036854775808 * 9223372036854775808 = 0) 
    (d L : Nat) (hd : 52 - ((x : Int) - 1023) = d) (hd1 : 1 ≤ d) (hd2 : d ≤ 52) (hL : (2 : Int) ^ d = L) (hL1 : 2 ≤ L) (hL2 : (L : Int) ≤ 4503599627370496)
    (q n m g : Nat) (hq : (a : Int) % L = q) (hqL : q < L) (hqz : q ≤ a) (hn : (a : Int) - q = n) (hnL : (n : Int) + L ≤ 9223372036854775807) (hm : (n : Int) / L = m) (hm9 : (m : Int) ≤ 9223372036854775807) (hg : (L : Int) / 2 = g)
    (hp : 0 < q) (hA : decide (g < q) = false) (hB : ((q : Int) == (g : Int)) = true) (hE : ((x : Int) - 1023 == 0) = true) (r : Nat) (hr : bits BinOp.or IntKind.u64 0 ((n : Int) + L) = r) (w : World) :
    Calls Try.prog 27 #[.int .u64 a, .int .i64 3] w fun e w' => e = .returned (.int .u64 r) ∧ w = w' := by
  have hone := or_one0
  go_enter Try.func27, Try.ntmps27
  go_wp2_with (go_at_call 10; refine (classR_in _ (by assumption) _).mono ?_; rintro e w' ⟨rfl, rfl⟩)
  all_goals go_ret
  all_goals first | exact ⟨rfl, rfl⟩ | exact ⟨ret_int hr, rfl⟩
set_option maxRecDepth 100000 in
theorem mid_pos3d (a x : Nat) (h : a < 18446744073709551616) (h4a : (clsR a == 4) = false) (h3a : (clsR a == 3) = false) (hx : (a : Int) / 4503599627370496 % 2048 = x) (hx1 : 1023 ≤ x) (hx2 : x ≤ 1074)
    (hs : (a : Int) / 9223372036854775808 * 9223372036854775808 = 0) 
    (d L : Nat) (hd : 52 - ((x : Int) - 1023) = d) (hd1 : 1 ≤ d) (hd2 : d ≤ 52) (hL : (2 : Int) ^ d = L) (hL1 : 2 ≤ L) (hL2 : (L : Int) ≤ 4503599627370496)
    (q n m g : Nat) (hq : (a : Int) % L = q) (hqL : q < L) (hqz : q ≤ a) (hn : (a : Int) - q = n) (hnL : (n : Int) + L ≤ 9223372036854775807) (hm : (n : Int) / L = m) (hm9 : (m : Int) ≤ 9223372036854775807) (hg : (L : Int) / 2 = g)
    (hp : 0 < q) (hA : decide (g < q) = false) (hB : ((q : Int) == (g : Int)) = true) (hE : ((x : Int) - 1023 == 0) = false) (hO : ((m : Int) % 2 == 1) = true) (r : Nat) (hr : bits BinOp.or IntKind.u64 0 ((n : Int) + L) = r) (w : World) :
    Calls Try.prog 27 #[.int .u64 a, .int .i64 3] w fun e w' => e = .returned (.int .u64 r) ∧ w = w' := by
  have hone := or_one0
  go_enter Try.func27, Try.ntmps27
  go_wp2_with (go_at_call 10; refine (classR_in _ (by assumption) _).mono ?_; rintro e w' ⟨rfl, rfl⟩)
  all_goals go_ret
  all_goals first | exact ⟨rfl, rfl⟩ | exact ⟨ret_int hr, rfl⟩
set_option maxRecDepth 100000 in
theorem mid_pos3e (a x : Nat) (h : a < 18446744073709551616) (h4a : (clsR a == 4) = false) (h3a : (clsR a == 3) = false) (hx : (a : Int) / 4503599627370496 % 2048 = x) (hx1 : 1023 ≤ x) (hx2 : x ≤ 1074)
    (hs : (a : Int) / 9223372036854775808 * 9223372036854775808 = 0) 
    (d L : Nat) (hd : 52 - ((x : Int) - 1023) = d) (hd1 : 1 ≤ d) (hd2 : d ≤ 52) (hL : (2 : Int) ^ d = L) (hL1 : 2 ≤ L) (hL2 : (L : Int) ≤ 4503599627370496)
    (q n m g : Nat) (hq : (a : Int) % L = q) (hqL : q < L) (hqz : q ≤ a) (hn : (a : Int) - q = n) (hnL : (n : Int) + L ≤ 9223372036854775807) (hm : (n : Int) / L = m) (hm9 : (m : Int) ≤ 9223372036854775807) (hg : (L : Int) / 2 = g)
    (hA : decide (g < q) = false) (hB : ((q : Int) == (g : Int)) = true) (hE : ((x : Int) - 1023 == 0) = false) (hO : ((m : Int) % 2 == 1) = false) (r : Nat) (hr : bits BinOp.or IntKind.u64 0 ((n : Int)) = r) (w : World) :
    Calls Try.prog 27 #[.int .u64 a, .int .i64 3] w fun e w' => e = .returned (.int .u64 r) ∧ w = w' := by
  have hone := or_one0
  go_enter Try.func27, Try.ntmps27
  go_wp2_with (go_at_call 10; refine (classR_in _ (by assumption) _).mono ?_; rintro e w' ⟨rfl, rfl⟩)
  all_goals go_ret
  all_goals first | exact ⟨rfl, rfl⟩ | exact ⟨ret_int hr, rfl⟩
set_option maxRecDepth 100000 in
theorem mid_neg0 (a x : Nat) (h : a < 18446744073709551616) (h4a : (clsR a == 4) = false) (h3a : (clsR a == 3) = false) (hx : (a : Int) / 4503599627370496 % 2048 = x) (hx1 : 1023 ≤ x) (hx2 : x ≤ 1074)
    (hs : (a : Int) / 9223372036854775808 * 9223372036854775808 = 9223372036854775808) (z : Nat) (hz : (a : Int) - 9223372036854775808 = z) (hz0 : (z : Int) ≤ 9223372036854775807) 
    (d L : Nat) (hd : 52 - ((x : Int) - 1023) = d) (hd1 : 1 ≤ d) (hd2 : d ≤ 52) (hL : (2 : Int) ^ d = L) (hL1 : 2 ≤ L) (hL2 : (L : Int) ≤ 4503599627370496)
    (q n m g : Nat) (hq : (z : Int) % L = q) (hqL : q < L) (hqz : q ≤ z) (hn : (z : Int) - q = n) (hnL : (n : Int) + L ≤ 9223372036854775807) (hm : (n : Int) / L = m) (hm9 : (m : Int) ≤ 9223372036854775807) (hg : (L : Int) / 2 = g)
     (r : Nat) (hr : bits BinOp.or IntKind.u64 9223372036854775808 ((n : Int)) = r) (w : World) :
    Calls Try.prog 27 #[.int .u64 a, .int .i64 0] w fun e w' => e = .returned (.int .u64 r) ∧ w = w' := by
  have hone := or_one
  go_enter Try.func27, Try.ntmps27
  go_wp2_with (go_at_call 10; refine (classR_in _ (by assumption) _).mono ?_; rintro e w' ⟨rfl, rfl⟩)
  all_goals go_ret
  all_goals first | exact ⟨rfl, rfl⟩ | exact ⟨ret_int hr, rfl⟩
set_option maxRecDepth 100000 in
theorem mid_neg1y (a x : Nat) (h : a < 18446744073709551616) (h4a : (clsR a == 4) = false) (h3a : (clsR a == 3) = false) (hx : (a : Int) / 4503599627370496 % 2048 = x) (hx1 : 1023 ≤ x) (hx2 : x ≤ 1074)
    (hs : (a : Int) / 9223372036854775808 * 9223372036854775808 = 9223372036854775808) (z : Nat) (hz : (a : Int) - 9223372036854775808 = z) (hz0 : (z : Int) ≤ 9223372036854775807) 
    (d L : Nat) (hd : 52 - ((x : Int) - 1023) = d) (hd1 : 1 ≤ d) (hd2 : d ≤ 52) (hL : (2 : Int) ^ d = L) (hL1 : 2 ≤ L) (hL2 : (L : Int) ≤ 4503599627370496)
    (q n m g : Nat) (hq : (z : Int) % L = q) (hqL : q < L) (hqz : q ≤ z) (hn : (z : Int) - q = n) (hnL : (n : Int) + L ≤ 9223372036854775807) (hm : (n : Int) / L = m) (hm9 : (m : Int) ≤ 9223372036854775807) (hg : (L : Int) / 2 = g)
    (hp : 0 < q) (r : Nat) (hr : bits BinOp.or IntKind.u64 9223372036854775808 ((n : Int) + L) = r) (w : World) :
    Calls Try.prog 27 #[.int .u64 a, .int .i64 1] w fun e w' => e = .returned (.int .u64 r) ∧ w = w' := by
  have hone := or_one
  go_enter Try.func27, Try.ntmps27
  go_wp2_with (go_at_call 10; refine (classR_in _ (by assumption) _).mono ?_; rintro e w' ⟨rfl, rfl⟩)
  all_goals go_ret
  all_goals first | exact ⟨rfl, rfl⟩ | exact ⟨ret_int hr, rfl⟩
set_option maxRecDepth 100000 in
theorem mid_neg1n (a x : Nat) (h : a < 18446744073709551616) (h4a : (clsR a == 4) = false) (h3a : (clsR a == 3) = false) (hx : (a : Int) / 4503599627370496 % 2048 = x) (hx1 : 1023 ≤ x) (hx2 : x ≤ 1074)
    (hs : (a : Int) / 9223372036854775808 * 9223372036854775808 = 9223372036854775808) (z : Nat) (hz : (a : Int) - 9223372036854775808 = z) (hz0 : (z : Int) ≤ 9223372036854775807) 
    (d L : Nat) (hd : 52 - ((x : Int) - 1023) = d) (hd1 : 1 ≤ d) (hd2 : d ≤ 52) (hL : (2 : Int) ^ d = L) (hL1 : 2 ≤ L) (hL2 : (L : Int) ≤ 4503599627370496)
    (q n m g : Nat) (hq : (z : Int) % L = q) (hqL : q < L) (hqz : q ≤ z) (hn : (z : Int) - q = n) (hnL : (n : Int) + L ≤ 9223372036854775807) (hm : (n : Int) / L = m) (hm9 : (m : Int) ≤ 9223372036854775807) (hg : (L : Int) / 2 = g)
    (hp : decide (0 < q) = false) (r : Nat) (hr : bits BinOp.or IntKind.u64 9223372036854775808 ((n : Int)) = r) (w : World) :
    Calls Try.prog 27 #[.int .u64 a, .int .i64 1] w fun e w' => e = .returned (.int .u64 r) ∧ w = w' := by
  have hone := or_one
  go_enter Try.func27, Try.ntmps27
  go_wp2_with (go_at_call 10; refine (classR_in _ (by assumption) _).mono ?_; rintro e w' ⟨rfl, rfl⟩)
  all_goals go_ret
  all_goals first | exact ⟨rfl, rfl⟩ | exact ⟨ret_int hr, rfl⟩
set_option maxRecDepth 100000 in
theorem mid_neg2 (a x : Nat) (h : a < 18446744073709551616) (h4a : (clsR a == 4) = false) (h3a : (clsR a == 3) = false) (hx : (a : Int) / 4503599627370496 % 2048 = x) (hx1 : 1023 ≤ x) (hx2 : x ≤ 1074)
    (hs : (a : Int) / 9223372036854775808 * 9223372036854775808 = 9223372036854775808) (z : Nat) (hz : (a : Int) - 9223372036854775808 = z) (hz0 : (z : Int) ≤ 9223372036854775807) 
    (d L : Nat) (hd : 52 - ((x : Int) - 1023) = d) (hd1 : 1 ≤ d) (hd2 : d ≤ 52) (hL : (2 : Int) ^ d = L) (hL1 : 2 ≤ L) (hL2 : (L : Int) ≤ 4503599627370496)
    (q n m g : Nat) (hq : (z : Int) % L = q) (hqL : q < L) (hqz : q ≤ z) (hn : (z : Int) - q = n) (hnL : (n : Int) + L ≤ 9223372036854775807) (hm : (n : Int) / L = m) (hm9 : (m : Int) ≤ 9223372036854775807) (hg : (L : Int) / 2 = g)
     (r : Nat) (hr : bits BinOp.or IntKind.u64 9223372036854775808 ((n : Int)) = r) (w : World) :
    Calls Try.prog 27 #[.int .u64 a, .int .i64 2] w fun e w' => e = .returned (.int .u64 r) ∧ w = w' := by
  have hone := or_one
  go_enter Try.func27, Try.ntmps27
  go_wp2_with (go_at_call 10; refine (classR_in _ (by assumption) _).mono ?_; rintro e w' ⟨rfl, rfl⟩)
  all_goals go_ret
  all_goals first | exact ⟨rfl, rfl⟩ | exact ⟨ret_int hr, rfl⟩
set_option maxRecDepth 100000 in
theorem mid_neg3a (a x : Nat) (h : a < 18446744073709551616) (h4a : (clsR a == 4) = false) (h3a : (clsR a == 3) = false) (hx : (a : Int) / 4503599627370496 % 2048 = x) (hx1 : 1023 ≤ x) (hx2 : x ≤ 1074)
    (hs : (a : Int) / 9223372036854775808 * 9223372036854775808 = 9223372036854775808) (z : Nat) (hz : (a : Int) - 9223372036854775808 = z) (hz0 : (z : Int) ≤ 9223372036854775807) 
    (d L : Nat) (hd : 52 - ((x : Int) - 1023) = d) (hd1 : 1 ≤ d) (hd2 : d ≤ 52) (hL : (2 : Int) ^ d = L) (hL1 : 2 ≤ L) (hL2 : (L : Int) ≤ 4503599627370496)
    (q n m g : Nat) (hq : (z : Int) % L = q) (hqL : q < L) (hqz : q ≤ z) (hn : (z : Int) - q = n) (hnL : (n : Int) + L ≤ 9223372036854775807) (hm : (n : Int) / L = m) (hm9 : (m : Int) ≤ 9223372036854775807) (hg : (L : Int) / 2 = g)
    (hp : 0 < q) (hA : g < q) (r : Nat) (hr : bits BinOp.or IntKind.u64 9223372036854775808 ((n : Int) + L) = r) (w : World) :
    Calls Try.prog 27 #[.int .u64 a, .int .i64 3] w fun e w' => e = .returned (.int .u64 r) ∧ w = w' := by
  have hone := or_one
  go_enter Try.func27, Try.ntmps27
  go_wp2_with (go_at_call 10; refine (classR_in _ (by assumption) _).mono ?_; rintro e w' ⟨rfl, rfl⟩)
  all_goals go_ret
  all_goals first | exact ⟨rfl, rfl⟩ | exact ⟨ret_int hr, rfl⟩
set_option maxRecDepth 100000 in
theorem mid_neg3b (a x : Nat) (h : a < 18446744073709551616) (h4a : (clsR a == 4) = false) (h3a : (clsR a == 3) = false) (hx : (a : Int) / 4503599627370496 % 2048 = x) (hx1 : 1023 ≤ x) (hx2 : x ≤ 1074)
    (hs : (a : Int) / 9223372036854775808 * 9223372036854775808 = 9223372036854775808) (z : Nat) (hz : (a : Int) - 9223372036854775808 = z) (hz0 : (z : Int) ≤ 9223372036854775807) 
    (d L : Nat) (hd : 52 - ((x : Int) - 1023) = d) (hd1 : 1 ≤ d) (hd2 : d ≤ 52) (hL : (2 : Int) ^ d = L) (hL1 : 2 ≤ L) (hL2 : (L : Int) ≤ 4503599627370496)
    (q n m g : Nat) (hq : (z : Int) % L = q) (hqL : q < L) (hqz : q ≤ z) (hn : (z : Int) - q = n) (hnL : (n : Int) + L ≤ 9223372036854775807) (hm : (n : Int) / L = m) (hm9 : (m : Int) ≤ 9223372036854775807) (hg : (L : Int) / 2 = g)
    (hA : decide (g < q) = false) (hB : ((q : Int) == (g : Int)) = false) (r : Nat) (hr : bits BinOp.or IntKind.u64 9223372036854775808 ((n : Int)) = r) (w : World) :
    Calls Try.prog 27 #[.int .u64 a, .int .i64 3] w fun e w' => e = .returned (.int .u64 r) ∧ w = w' := by
  have hone := or_one
  go_enter Try.func27, Try.ntmps27
  go_wp2_with (go_at_call 10; refine (classR_in _ (by assumption) _).mono ?_; rintro e w' ⟨rfl, rfl⟩)
  all_goals go_ret
  all_goals first | exact ⟨rfl, rfl⟩ | exact ⟨ret_int hr, rfl⟩
set_option maxRecDepth 100000 in
theorem mid_neg3c (a x : Nat) (h : a < 18446744073709551616) (h4a : (clsR a == 4) = false) (h3a : (clsR a == 3) = false) (hx : (a : Int) / 4503599627370496 % 2048 = x) (hx1 : 1023 ≤ x) (hx2 : x ≤ 1074)
    (hs : (a : Int) / 9223372036854775808 * 9223372036854775808 = 9223372036854775808) (z : Nat) (hz : (a : Int) - 9223372036854775808 = z) (hz0 : (z : Int) ≤ 9223372036854775807) 
    (d L : Nat) (hd : 52 - ((x : Int) - 1023) = d) (hd1 : 1 ≤ d) (hd2 : d ≤ 52) (hL : (2 : Int) ^ d = L) (hL1 : 2 ≤ L) (hL2 : (L : Int) ≤ 4503599627370496)
    (q n m g : Nat) (hq : (z : Int) % L = q) (hqL : q < L) (hqz : q ≤ z) (hn : (z : Int) - q = n) (hnL : (n : Int) + L ≤ 9223372036854775807) (hm : (n : Int) / L = m) (hm9 : (m : Int) ≤ 9223372036854775807) (hg : (L : Int) / 2 = g)
    (hp : 0 < q) (hA : decide (g < q) = false) (hB : ((q : Int) == (g : Int)) = true) (hE : ((x : Int) - 1023 == 0) = true) (r : Nat) (hr : bits BinOp.or IntKind.u64 9223372036854775808 ((n : Int) + L) = r) (w : World) :
    Calls Try.prog 27 #[.int .u64 a, .int .i64 3] w fun e w' => e = .returned (.int .u64 r) ∧ w = w' := by
  have hone := or_one
  go_enter Try.func27, Try.ntmps27
  go_wp2_with (go_at_call 10; refine (classR_in _ (by assumption) _).mono ?_; rintro e w' ⟨rfl, rfl⟩)
  all_goals go_ret
  all_goals first | exact ⟨rfl, rfl⟩ | exact ⟨ret_int hr, rfl⟩
set_option maxRecDepth 100000 in
theorem mid_neg3d (a x : Nat) (h : a < 18446744073709551616) (h4a : (clsR a == 4) = false) (h3a : (clsR a == 3) = false) (hx : (a : Int) / 4503599627370496 % 2048 = x) (hx1 : 1023 ≤ x) (hx2 : x ≤ 1074)
    (hs : (a : Int) / 9223372036854775808 * 9223372036854775808 = 9223372036854775808) (z : Nat) (hz : (a : Int) - 9223372036854775808 = z) (hz0 : (z : Int) ≤ 9223372036854775807) 
    (d L : Nat) (hd : 52 - ((x : Int) - 1023) = d) (hd1 : 1 ≤ d) (hd2 : d ≤ 52) (hL : (2 : Int) ^ d = L) (hL1 : 2 ≤ L) (hL2 : (L : Int) ≤ 4503599627370496)
    (q n m g : Nat) (hq : (z : Int) % L = q) (hqL : q < L) (hqz : q ≤ z) (hn : (z : Int) - q = n) (hnL : (n : Int) + L ≤ 9223372036854775807) (hm : (n : Int) / L = m) (hm9 : (m : Int) ≤ 9223372036854775807) (hg : (L : Int) / 2 = g)
    (hp : 0 < q) (hA : decide (g < q) = false) (hB : ((q : Int) == (g : Int)) = true) (hE : ((x : Int) - 1023 == 0) = false) (hO : ((m : Int) % 2 == 1) = true) (r : Nat) (hr : bits BinOp.or IntKind.u64 9223372036854775808 ((n : Int) + L) = r) (w : World) :
    Calls Try.prog 27 #[.int .u64 a, .int .i64 3] w fun e w' => e = .returned (.int .u64 r) ∧ w = w' := by
  have hone := or_one
  go_enter Try.func27, Try.ntmps27
  go_wp2_with (go_at_call 10; refine (classR_in _ (by assumption) _).mono ?_; rintro e w' ⟨rfl, rfl⟩)
  all_goals go_ret
  all_goals first | exact ⟨rfl, rfl⟩ | exact ⟨ret_int hr, rfl⟩
set_option maxRecDepth 100000 in
theorem mid_neg3e (a x : Nat) (h : a < 18446744073709551616) (h4a : (clsR a == 4) = false) (h3a : (clsR a == 3) = false) (hx : (a : Int) / 4503599627370496 % 2048 = x) (hx1 : 1023 ≤ x) (hx2 : x ≤ 1074)
    (hs : (a : Int) / 9223372036854775808 * 9223372036854775808 = 9223372036854775808) (z : Nat) (hz : (a : Int) - 9223372036854775808 = z) (hz0 : (z : Int) ≤ 9223372036854775807) 
    (d L : Nat) (hd : 52 - ((x : Int) - 1023) = d) (hd1 : 1 ≤ d) (hd2 : d ≤ 52) (hL : (2 : Int) ^ d = L) (hL1 : 2 ≤ L) (hL2 : (L : Int) ≤ 4503599627370496)
    (q n m g : Nat) (hq : (z : Int) % L = q) (hqL : q < L) (hqz : q ≤ z) (hn : (z : Int) - q = n) (hnL : (n : Int) + L ≤ 9223372036854775807) (hm : (n : Int) / L = m) (hm9 : (m : Int) ≤ 9223372036854775807) (hg : (L : Int) / 2 = g)
    (hA : decide (g < q) = false) (hB : ((q : Int) == (g : Int)) = true) (hE : ((x : Int) - 1023 == 0) = false) (hO : ((m : Int) % 2 == 1) = false) (r : Nat) (hr : bits BinOp.or IntKind.u64 9223372036854775808 ((n : Int)) = r) (w : World) :
    Calls Try.prog 27 #[.int .u64 a, .int .i64 3] w fun e w' => e = .returned (.int .u64 r) ∧ w = w' := by
  have hone := or_one
  go_enter Try.func27, Try.ntmps27
  go_wp2_with (go_at_call 10; refine (classR_in _ (by assumption) _).mono ?_; rintro e w' ⟨rfl, rfl⟩)
  all_goals go_ret
  all_goals first | exact ⟨rfl, rfl⟩ | exact ⟨ret_int hr, rfl⟩
end Go.Proofs.Ytckdbgejpagkpaa
