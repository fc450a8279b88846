/-
  ferryref01.Be, Le: numbers out of bytes.
-/
import Derived.Test.YtofeamajoahjmaaFStat
import Derived.Test.YtofeamajoahjmaaFRef1
namespace Go.Proofs.Ytofeamajoahjmaa
open Go Go.RowKit
set_option linter.unusedVariables false
set_option linter.unusedSimpArgs false

theorem beN_take (l : List UInt8) (k : Nat) (h : k < l.length) : beN (l.take (k + 1)) = beN (l.take k) * 256 + l[k].toNat := by
  rw [List.take_succ_eq_append_getElem h, beN_snoc]

theorem u64_step (m x : Nat) (h : m * 256 + x < 18446744073709551616) : IntKind.u64.wrap (IntKind.u64.wrap ((m : Int) * 256) + IntKind.u64.wrap (x : Int)) = ((m * 256 + x : Nat) : Int) := by
  have e1 : IntKind.u64.wrap ((m : Int) * 256) = ((m * 256 : Nat) : Int) := by simp [IntKind.wrap, IntKind.signed, IntKind.bits]; omega
  have e2 : IntKind.u64.wrap (x : Int) = (x : Int) := by simp [IntKind.wrap, IntKind.signed, IntKind.bits]; omega
  rw [e1, e2]
  simp [IntKind.wrap, IntKind.signed, IntKind.bits]; omega

set_option maxHeartbeats 1000000 in
theorem rbe_any (l : List UInt8) (hl : l.length ≤ 8) (w : World) :
    Calls Try.prog 36 #[.string (mkB l)] w fun e w' => e = .returned (.int .u64 (beN l : Nat)) ∧ w' = w := by
  have hsz := mkB_size l
  have h8 : ¬ (8 : Int) < (l.length : Int) := by omega
  have HL := Lib.hid hl
  clear hl
  go_enter Try.func36, Try.ntmps36
  go_wp2
  go_loopw [3, 4] (fun n i wr => wr = w ∧ ∃ k : Nat, k ≤ l.length ∧ i = .int .i64 k ∧ n = .int .u64 (beN (l.take k) : Nat)) (fun _ i _ => l.length - (intOf i).toNat)
  case atStart => exact ⟨rfl, 0, by omega, rfl, rfl⟩
  case round =>
    obtain ⟨rfl, k, hk, rfl, rfl⟩ := hrel
    by_cases hlt : k < l.length
    · have hlti : (k : Int) < (l.length : Int) := by omega
      have hks : k < (mkB l).size := by omega
      obtain ⟨x, hx⟩ : ∃ x, x = l[k] := ⟨_, rfl⟩
      have hx1 : (mkB l)[k]'hks = x := hx.symm
      obtain ⟨m, em⟩ : ∃ m, m = beN (l.take k) := ⟨_, rfl⟩
      have HN : Hid (m * 256 + x.toNat = beN (l.take (k + 1))) := Lib.hid (by rw [em, hx]; exact (beN_take l k hlt).symm)
      have HM : Hid (m * 256 + x.toNat < 18446744073709551616) := Lib.hid (by rw [HN.out]; exact beN_lt8 (by have := HL.out; rw [List.length_take]; omega))
      rw [← em]
      clear em hx
      go_wp2
      go_roundw
      case rel => exact ⟨trivial, k + 1, by omega, by go_num, by rw [u64_step m x.toNat HM.out, HN.out]⟩
      case measure => simp [intOf]; omega
    · have hlti : ¬ (k : Int) < (l.length : Int) := by omega
      have e : l.take k = l := List.take_of_length_le (by omega)
      rw [e]
      go_wp2
      go_ret
      exact ⟨rfl, rfl⟩

set_option maxHeartbeats 1000000 in
theorem rle_any (l : List UInt8) (hl : l.length ≤ 8) (w : World) :
    Calls Try.prog 43 #[.string (mkB l)] w fun e w' => e = .returned (.int .u64 (leN l : Nat)) ∧ w' = w := by
  have hsz := mkB_size l
  have h8 : ¬ (8 : Int) < (l.length : Int) := by omega
  have HL := Lib.hid hl
  have hlen8 : (l.length : Int) ≤ 8 := by omega
  clear hl
  go_enter Try.func43, Try.ntmps43
  go_wp2
  go_loopw [3, 4] (fun n i wr => wr = w ∧ ∃ k : Nat, k ≤ l.length ∧ i = .int .i64 ((l.length : Int) - 1 - (k : Int)) ∧ n = .int .u64 (beN (l.reverse.take k) : Nat)) (fun _ i _ => (intOf i + 1).toNat)
  case atStart => exact ⟨rfl, 0, by omega, by simp, rfl⟩
  case round =>
    obtain ⟨rfl, k, hk, rfl, rfl⟩ := hrel
    by_cases hlt : k < l.length
    · obtain ⟨j, ej⟩ : ∃ j : Nat, (l.length : Int) - 1 - (k : Int) = (j : Int) := ⟨l.length - 1 - k, by omega⟩
      have hj : j < l.length := by omega
      have hji : (j : Int) < (l.length : Int) := by omega
      have hks : j < (mkB l).size := by omega
      have hr : k < l.reverse.length := by rw [List.length_reverse]; exact hlt
      obtain ⟨x, hx⟩ : ∃ x, x = l[j] := ⟨_, rfl⟩
      have hx0 : l.reverse[k] = x := by
        have h1 : l.reverse[k]? = l[j]? := by
          rw [List.getElem?_reverse hlt]
          congr 1
          omega
        rw [List.getElem?_eq_getElem hr, List.getElem?_eq_getElem hj] at h1
        rw [hx]; exact Option.some.inj h1
      have hx1 : (mkB l)[j]'hks = x := hx.symm
      obtain ⟨m, em⟩ : ∃ m, m = beN (l.reverse.take k) := ⟨_, rfl⟩
      have HN : Hid (m * 256 + x.toNat = beN (l.reverse.take (k + 1))) := Lib.hid (by rw [em, ← hx0]; exact (beN_take l.reverse k hr).symm)
      have HM : Hid (m * 256 + x.toNat < 18446744073709551616) := Lib.hid (by rw [HN.out]; exact beN_lt8 (by have := HL.out; rw [List.length_take, List.length_reverse]; omega))
      have EJ := Lib.hid ej
      rw [← em, ej]
      have hm1 : (-1 : Int) ≤ (j : Int) - 1 := by omega
      clear em hx hx0 ej
      go_wp2
      go_roundw
      case rel => exact ⟨trivial, k + 1, by omega, by have := EJ.out; congr 1; omega, by rw [u64_step m x.toNat HM.out, HN.out]⟩
      case measure => simp [intOf] <;> omega
    · have e0 : (l.length : Int) - 1 - (k : Int) = -1 := by omega
      have e : l.reverse.take k = l.reverse := List.take_of_length_le (by rw [List.length_reverse]; omega)
      rw [e, e0]
      go_wp2
      go_ret
      exact ⟨rfl, rfl⟩

theorem rbe25_any (v : Nat) (hv : v < 18446744073709551616) (n : Int) (w : World) :
    Calls Try.prog 34 #[.int .u64 v, .int .i64 n] w fun e w' => e = .returned (.string (putBeF v n)) ∧ Below w.heap.size w w' := by
  have HV := Lib.hid hv
  clear hv
  go_enter Try.func34, Try.ntmps34
  go_wp2_with (go_at_call 13; refine (rputBe_any v HV.out n _).mono ?_; rintro e w1 ⟨rfl, hb1⟩)
  go_ret
  exact ⟨rfl, hb1⟩

theorem rle25_any (l : List UInt8) (i n : Nat) (hn : n ≤ 8) (h : i + n ≤ l.length) (hl : l.length ≤ 140737488351232) (w : World) :
    Calls Try.prog 35 #[.string (mkB l), .int .i64 i, .int .i64 n] w fun e w' => e = .returned (.int .u64 (leAt l i n : Nat)) ∧ w' = w := by
  have hsz := mkB_size l
  obtain ⟨j, ej⟩ : ∃ j : Nat, (i : Int) + (n : Int) = (j : Int) := ⟨i + n, by omega⟩
  have hij : (i : Int) ≤ (j : Int) := by omega
  have hjl : (j : Int) ≤ (l.length : Int) := by omega
  have hx : (mkB l).extract i j = mkB ((l.drop i).take n) := by
    rw [mkB_extract]
    have : j - i = n := by omega
    rw [this]
  have HL : Hid (((l.drop i).take n).length ≤ 8) := Lib.hid (by rw [List.length_take]; omega)
  have hlb : (l.length : Int) ≤ 140737488351232 := by omega
  clear h hn hl
  go_enter Try.func35, Try.ntmps35
  go_wp2_with (go_at_call 43; refine (rle_any _ HL.out _).mono ?_; rintro e w1 ⟨rfl, rfl⟩)
  go_ret
  exact ⟨rfl, rfl⟩
end Go.Proofs.Ytofeamajoahjmaa
