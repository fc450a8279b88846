/-
  structs.PutMask: a mask's bytes.
-/
import Derived.Test.YtbaelhaajplbnaaFStr
import Derived.Laws.BitsAllLaws
namespace Go.Proofs.Ytbaelhaajplbnaa
open Go Go.RowKit
set_option linter.unusedVariables false
set_option linter.unusedSimpArgs false

def maskB (m : Nat) : List UInt8 := wordsB 4 [m, m / 4294967296, 0, 0]

set_option maxHeartbeats 1000000 in
set_option maxRecDepth 100000 in
theorem putMask_any (m : Nat) (hm : m < 18446744073709551616) (w : World) :
    Calls Try.prog 19 #[.int .u64 m] w fun e w' => e = .returned (.string (mkB (maskB m))) ∧ Below w.heap.size w w' := by
  have HAB : Hid (AllU [m, m / 4294967296, 0, 0]) := Lib.hid (fun v hv => by
    simp only [List.mem_cons, List.not_mem_nil, or_false] at hv
    rcases hv with rfl | rfl | rfl | rfl
    · exact hm
    · exact Nat.lt_of_le_of_lt (Nat.div_le_self _ _) hm
    · exact Nat.zero_lt_succ _
    · exact Nat.zero_lt_succ _)
  have HM := Lib.hid hm
  clear hm
  go_enter Try.func19, Try.ntmps19
  go_upto_region 3 with (go_at_call 35; refine (put_any w.heap.size w.heap.size (w.heap.size + 1) 4 [m, m / 4294967296, 0, 0] HAB.out [] (by simp) _ _ (rowU_of (heap_new _ _ _ (by rw [heap_len])) (by simp)) (by omega) (bld_alloc (bld_new w) _) (by simp only [heap_len]; omega)).mono ?_; rintro e w2 ⟨rfl, k1, k2, k3⟩)
  have K1 := Lib.hid k1
  have HZ : Hid (w.heap.size ≤ w2.heap.size) := Lib.hid (by have := k2.size; simp only [heap_len] at this; omega)
  have K2 : Hid (Below w.heap.size w w2) := Lib.hid ((((Below.refl _ w).alloc (Nat.le_refl _) _).alloc (by rw [heap_len]; omega) _).trans k2)
  clear k1 k2 k3
  go_wp2_with (go_at_call 21; refine (bstr_any _ _ _ _ K1.out HZ.out).mono ?_; rintro e w3 ⟨rfl, _, hb3, _⟩)
  go_ret
  exact ⟨by rfl, K2.out.trans hb3⟩

end Go.Proofs.Ytbaelhaajplbnaa
