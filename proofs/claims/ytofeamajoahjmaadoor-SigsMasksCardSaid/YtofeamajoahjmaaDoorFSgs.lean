/-
  sigs: numbers of signals, what happens of one, a handler begun, one raised, a mask changed.
-/
import Derived.Test.YtofeamajoahjmaaDoorFRow
import Derived.Laws.BitsAllLaws
import Derived.Lib.TrailingZeros
import Derived.Deep.RegionWith
import Derived.Deep.RegionHeld3
import Derived.Deep.QuietTactic
namespace Go.Proofs.YtofeamajoahjmaaDoor
open Go Go.RowKit
set_option linter.unusedVariables false
set_option linter.unusedSimpArgs false

theorem sgIs (n : Int) (h1 : 1 ≤ n) (h2 : n ≤ 64) (w : World) :
    Calls Tryd.prog 27 #[.int .i64 n] w fun e w' => e = .returned (.bool true) ∧ w' = w := by
  go_enter Tryd.func27, Tryd.ntmps27
  go_wp2
  all_goals go_ret
  all_goals exact ⟨by simp <;> omega, rfl⟩

def bitN (n : Int) : Int := ((2 ^ (n.toNat - 1) : Nat) : Int)
theorem bitN_lt (n : Int) (h1 : 1 ≤ n) (h2 : n ≤ 64) : 0 ≤ bitN n ∧ bitN n ≤ 18446744073709551615 := by
  have : 2 ^ (n.toNat - 1) < 2 ^ 64 := Nat.pow_lt_pow_right (by omega) (by omega)
  have e : (2 ^ 64 : Nat) = 18446744073709551616 := rfl
  rw [e] at this
  unfold bitN
  exact ⟨Int.natCast_nonneg _, by have := Int.ofNat_lt.2 this; omega⟩
theorem bitN_wrap (n : Int) (h1 : 1 ≤ n) (h2 : n ≤ 64) : IntKind.u64.wrap (2 ^ (n.toNat - 1)) = bitN n := by
  have := bitN_lt n h1 h2
  have e : ((2 : Int) ^ (n.toNat - 1)) = bitN n := by simp [bitN]
  rw [e, IntKind.wrap_u64]
  omega
theorem sgBit (n : Int) (h1 : 1 ≤ n) (h2 : n ≤ 64) (w : World) :
    Calls Tryd.prog 26 #[.int .i64 n] w fun e w' => e = .returned (.int .u64 (bitN n)) ∧ w' = w := by
  have hb := bitN_wrap n h1 h2
  go_enter Tryd.func26, Tryd.ntmps26
  go_wp2
  go_ret
  exact ⟨by simp [hb], rfl⟩

/-! ### The number of the lowest one -/
/-- The table in its variable. -/
def TabAt (w : World) : Prop := ∀ j, j < 64 → w.cell? ⟨0, j, none⟩ = some (.int .u8 (Lib.deBruijn64tab.getD j 0))
theorem tz64_key (x a : Nat) (hx : x < 18446744073709551616) (hx0 : x ≠ 0) (hlow : x &&& (18446744073709551616 - x) = a) :
    IntKind.u64.wrap (bits BinOp.and IntKind.u64 (x : Int) (IntKind.u64.wrap (-(x : Int))) * 285870213051353865) / 288230376151711744 = ((a * 285870213051353865 % 18446744073709551616 / 288230376151711744 : Nat) : Int) := by
  have e1 : IntKind.u64.wrap (-(x : Int)) = ((18446744073709551616 - x : Nat) : Int) := by rw [IntKind.wrap_u64]; omega
  rw [e1, u64_and_nat x _ hx (by omega), hlow, IntKind.wrap_u64]
  omega
theorem tz64_core (x k idx : Nat) (w : World) (hx0 : ((x : Int) == 0) = false)
    (key : IntKind.u64.wrap (bits BinOp.and IntKind.u64 (x : Int) (IntKind.u64.wrap (-(x : Int))) * 285870213051353865) / 288230376151711744 = (idx : Int))
    (hi : idx < 64) (hk : k < 64) (hcell : w.cell? ⟨0, idx, none⟩ = some (.int .u8 k)) :
    Calls Tryd.prog 38 #[.int .u64 x] w fun e w' => e = .returned (.int .i64 k) ∧ w' = w := by
  go_enter Tryd.func38, Tryd.ntmps38
  go_wp2_with (simp only [key])
  go_ret
  exact ⟨rfl, rfl⟩
theorem sgTz (x : Nat) (hx : x < 18446744073709551616) (hx0 : x ≠ 0) (w : World) (hT : TabAt w) :
    Calls Tryd.prog 38 #[.int .u64 x] w fun e w' => e = .returned (.int .i64 (Lib.ctz 64 x : Nat)) ∧ w' = w := by
  obtain ⟨hlow, hk⟩ := Lib.lowest_bit 64 x hx0 hx
  obtain ⟨hi, htab⟩ := Lib.deBruijn64_at _ hk
  have hcell := hT _ hi
  rw [htab] at hcell
  exact tz64_core x _ _ w (by simp; omega) (tz64_key x _ hx hx0 hlow) hi hk hcell

/-! ### What happens of one -/
def ignL : List Int := [18, 20, 21, 25]
set_option maxHeartbeats 1000000 in
theorem sgIndex (n : Int) (b : Nat) (w : World) (h0 : w.cell? ⟨b, 0, none⟩ = some (.int .i64 18)) (h1 : w.cell? ⟨b, 1, none⟩ = some (.int .i64 20)) (h2 : w.cell? ⟨b, 2, none⟩ = some (.int .i64 21)) (h3 : w.cell? ⟨b, 3, none⟩ = some (.int .i64 25)) :
    Calls Tryd.prog 39 #[.slice (some ⟨b, 0, none⟩) 4 4, .int .i64 n] w fun e w' => (∃ r : Int, e = .returned (.int .i64 r) ∧ decide (0 ≤ r) = decide (n ∈ ignL)) ∧ w' = w := by
  have hc : ∀ k, k < 4 → w.cell? ⟨b, k, none⟩ = some (.int .i64 (ignL.getD k 0)) := fun k hk => by
    match k, hk with
    | 0, _ => exact h0
    | 1, _ => exact h1
    | 2, _ => exact h2
    | 3, _ => exact h3
  have HC := Lib.hid hc
  clear hc h0 h1 h2 h3
  go_enter Tryd.func39, Tryd.ntmps39
  go_wp2
  go_loopw [8] (fun i wr => ∃ k : Nat, k ≤ 4 ∧ i = .int .i64 k ∧ (∀ j, j < k → ignL.getD j 0 ≠ n) ∧ wr = w) (fun i _ => 4 - (intOf i).toNat)
  case atStart => exact ⟨0, by omega, rfl, fun _ h => by omega, rfl⟩
  case round =>
    obtain ⟨k, hk, rfl, hne, rfl⟩ := hrel
    have HN := Lib.hid hne
    clear hne
    by_cases hlt : k < 4
    · have hcell := HC.out k hlt
      by_cases he : n = ignL.getD k 0
      · rw [← he] at hcell
        have hin : n ∈ ignL := by
          rw [he]
          match k, hlt with
          | 0, _ => decide
          | 1, _ => decide
          | 2, _ => decide
          | 3, _ => decide
        have HI := Lib.hid hin
        clear he hin
        go_wp2
        go_ret
        exact ⟨⟨_, rfl, by rw [decide_eq_true HI.out]; simp⟩, rfl⟩
      · have hb : (n == ignL.getD k 0) = false := by simp; exact he
        have he' : ignL.getD k 0 ≠ n := fun h => he h.symm
        have HE := Lib.hid he'
        clear he he'
        obtain ⟨q, hq⟩ : ∃ q, q = ignL.getD k 0 := ⟨_, rfl⟩
        rw [← hq] at hcell hb
        clear hq
        go_wp2
        go_roundw
        case rel => exact ⟨k + 1, by omega, by go_num, fun j hj => by by_cases e : j = k; · rw [e]; exact HE.out
                                                                      · exact HN.out j (by omega), by trivial⟩
        case measure => simp [intOf]; omega
    · obtain rfl : k = 4 := by omega
      go_wp2
      go_ret
      refine ⟨⟨_, rfl, ?_⟩, rfl⟩
      have : ¬ n ∈ ignL := by
        intro hm
        simp only [ignL, List.mem_cons, List.not_mem_nil, or_false] at hm
        rcases hm with rfl | rfl | rfl | rfl
        · exact HN.out 0 (by omega) rfl
        · exact HN.out 1 (by omega) rfl
        · exact HN.out 2 (by omega) rfl
        · exact HN.out 3 (by omega) rfl
      rw [decide_eq_false this]; simp

theorem sgContains (n : Int) (b : Nat) (w : World) (h0 : w.cell? ⟨b, 0, none⟩ = some (.int .i64 18)) (h1 : w.cell? ⟨b, 1, none⟩ = some (.int .i64 20)) (h2 : w.cell? ⟨b, 2, none⟩ = some (.int .i64 21)) (h3 : w.cell? ⟨b, 3, none⟩ = some (.int .i64 25)) :
    Calls Tryd.prog 28 #[.slice (some ⟨b, 0, none⟩) 4 4, .int .i64 n] w fun e w' => e = .returned (.bool (decide (n ∈ ignL))) ∧ w' = w := by
  go_enter Tryd.func28, Tryd.ntmps28
  go_wp2_with (go_at_call 39; refine (sgIndex n b _ h0 h1 h2 h3).mono ?_; rintro e w1 ⟨⟨r, rfl, hr⟩, hw⟩; rw [hw]; clear hw)
  go_ret
  exact ⟨by simp [← hr], rfl⟩

/-- What happens of the signal k + 1. -/
def whatF (cs : Array Value) (k : Nat) : Int := if 1 < iat cs (2 + k * 3 + 1) then 2 else if iat cs (2 + k * 3 + 1) = 1 ∨ ((k : Int) + 1) ∈ ignL then 1 else 0

set_option maxHeartbeats 1000000 in
set_option maxRecDepth 10000 in
theorem sgWhat (cs : Array Value) (h : Fits sigK cs.toList) (k : Nat) (hk : k < 64) (w : World) :
    Calls Tryd.prog 13 #[.agg cs, .int .i64 ((k : Int) + 1)] w fun e w' => e = .returned (.int .i64 (whatF cs k)) ∧ Below w.heap.size w w' := by
  have e0 := (h.iat (sigK_hd k hk)).1
  have r0 := (h.iat (sigK_hd k hk)).2
  rw [wf_u32] at r0
  obtain ⟨r1, r2⟩ := r0
  obtain ⟨x, hx⟩ : ∃ x, x = iat cs (2 + k * 3 + 1) := ⟨_, rfl⟩
  rw [← hx] at e0 r1 r2
  have HX : Hid (whatF cs k = if 1 < x then 2 else if x = 1 ∨ ((k : Int) + 1) ∈ ignL then 1 else 0) := Lib.hid (by rw [hx, whatF])
  clear hx h
  have hk2 : (k : Int) + 1 ≤ 64 := by omega
  by_cases c1 : 1 < x
  · have HV : Hid (whatF cs k = 2) := Lib.hid (by rw [HX.out, if_pos c1])
    go_enter Tryd.func13, Tryd.ntmps13
    go_wp2_with (go_at_call 27; refine (sgIs _ (by omega) (by omega) _).mono ?_; rintro e w1 ⟨rfl, hw⟩; rw [hw]; clear hw)
    go_ret
    exact ⟨by rw [HV.out]; rfl, (Below.refl _ _).alloc (Nat.le_refl _) _⟩
  · by_cases c2 : x = 1
    · have HV : Hid (whatF cs k = 1) := Lib.hid (by rw [HX.out, if_neg c1, if_pos (.inl c2)])
      go_enter Tryd.func13, Tryd.ntmps13
      go_wp2_with (go_at_call 27; refine (sgIs _ (by omega) (by omega) _).mono ?_; rintro e w1 ⟨rfl, hw⟩; rw [hw]; clear hw)
      go_ret
      exact ⟨by rw [HV.out]; rfl, (Below.refl _ _).alloc (Nat.le_refl _) _⟩
    · have c3 : (x == 1) = false := by simp; exact c2
      cases c4 : decide ((k : Int) + 1 ∈ ignL)
      all_goals
        have HV : Hid (whatF cs k = if decide ((k : Int) + 1 ∈ ignL) then 1 else 0) := Lib.hid (by rw [HX.out, if_neg c1]; simp [c2])
        have C4 := Lib.hid c4; clear c4
        go_enter Tryd.func13, Tryd.ntmps13
        go_wp2_with (first
          | (go_at_call 27; refine (sgIs _ (by omega) (by omega) _).mono ?_; rintro e w1 ⟨rfl, hw⟩; rw [hw]; clear hw)
          | (go_at_call 28; refine (sgContains _ _ _ (cell_at (heap_new _ _ _ (by simp only [heap_len])) rfl) (cell_at (heap_new _ _ _ (by simp only [heap_len])) rfl) (cell_at (heap_new _ _ _ (by simp only [heap_len])) rfl) (cell_at (heap_new _ _ _ (by simp only [heap_len])) rfl)).mono ?_; rintro e w1 ⟨rfl, hw⟩; rw [hw, C4.out]; clear hw))
        go_ret
        refine ⟨?_, ((Below.refl _ _).alloc (Nat.le_refl _) _).alloc (by rw [heap_len]; omega) _⟩
        rw [HV.out, C4.out]; rfl
end Go.Proofs.YtofeamajoahjmaaDoor
