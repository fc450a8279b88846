/-
  ferryref01.Be, Le: numbers out of bytes.
-/
import Derived.Test.YtofeamajoahjmaaDoorFRef1
namespace Go.Proofs.YtofeamajoahjmaaDoor
open Go Go.RowKit
set_option linter.unusedVariables false
set_option linter.unusedSimpArgs false

theorem beN_take (l : List UInt8) (k : Nat) (h : k < l.length) : beN (l.take (k + 1)) = beN (l.take k) * 256 + l[k].toNat := by
  rw [List.take_succ_eq_append_getElem h, beN_snoc]

theorem u64_step (m x : Nat) (h : m * 256 + x < 18446744073709551616) : IntKind.u64.wrap (IntKind.u64.wrap ((m : Int) * 256) + IntKind.u64.wrap (x : Int)) = ((m * 256 + x : Nat) : Int) := by
  have e1 : IntKind.u64.wrap ((m : Int) * 256) = ((m * 256 : Nat) : Int) := by simp [IntKind.wrap, IntKind.signed, IntKind.bits]; omega
  have e2 : IntKind.u64.wrap (x : Int) = (x : Int) := by simp [IntKind.wrap, IntKind.signed, IntKind.bits]; omega
  rw [e1, e2]
  simp [IntKind.wrap, IntKind.signed, IntKind.bits]; omega

set_option maxHeartbeats 1000000 in
theorem rbe_any (l : List UInt8) (hl : l.length ≤ 8) (w : World) :
    Calls Tryd.prog 32 #[.string (mkB l)] w fun e w' => e = .returned (.int .u64 (beN l : Nat)) ∧ w' = w := by
  have hsz := mkB_size l
  have h8 : ¬ (8 : Int) < (l.length : Int) := by omega
  have HL := Lib.hid hl
  clear hl
  go_enter Tryd.func32, Tryd.ntmps32
  go_wp2
  go_loopw [3, 4] (fun n i wr => wr = w ∧ ∃ k : Nat, k ≤ l.length ∧ i = .int .i64 k ∧ n = .int .u64 (beN (l.take k) : Nat)) (fun _ i _ => l.length - (intOf i).toNat)
  case atStart => exact ⟨rfl, 0, by omega, rfl, rfl⟩
  case round =>
    obtain ⟨rfl, k, hk, rfl, rfl⟩ := hrel
    by_cases hlt : k < l.length
    · have hlti : (k : Int) < (l.length : Int) := by omega
      have hks : k < (mkB l).size := by omega
      obtain ⟨x, hx⟩ : ∃ x, x = l[k] := ⟨_, rfl⟩
      have hx1 : (mkB l)[k]'hks = x := hx.symm
      obtain ⟨m, em⟩ : ∃ m, m = beN (l.take k) := ⟨_, rfl⟩
      have HN : Hid (m * 256 + x.toNat = beN (l.take (k + 1))) := Lib.hid (by rw [em, hx]; exact (beN_take l k hlt).symm)
      have HM : Hid (m * 256 + x.toNat < 18446744073709551616) := Lib.hid (by rw [HN.out]; exact beN_lt8 (by have := HL.out; rw [List.length_take]; omega))
      rw [← em]
      clear em hx
      go_wp2
      go_roundw
      case rel => exact ⟨trivial, k + 1, by omega, by go_num, by rw [u64_step m x.toNat HM.out, HN.out]⟩
      case measure => simp [intOf]; omega
    · have hlti : ¬ (k : Int) < (l.length : Int) := by omega
      have e : l.take k = l := List.take_of_length_le (by omega)
      rw [e]
      go_wp2
      go_ret
      exact ⟨rfl, rfl⟩

theorem rbe25_any (v : Nat) (hv : v < 18446744073709551616) (n : Int) (w : World) :
    Calls Tryd.prog 35 #[.int .u64 v, .int .i64 n] w fun e w' => e = .returned (.string (putBeF v n)) ∧ Below w.heap.size w w' := by
  have HV := Lib.hid hv
  clear hv
  go_enter Tryd.func35, Tryd.ntmps35
  go_wp2_with (go_at_call 51; refine (rputBe_any v HV.out n _).mono ?_; rintro e w1 ⟨rfl, hb1⟩)
  go_ret
  exact ⟨rfl, hb1⟩

end Go.Proofs.YtofeamajoahjmaaDoor
