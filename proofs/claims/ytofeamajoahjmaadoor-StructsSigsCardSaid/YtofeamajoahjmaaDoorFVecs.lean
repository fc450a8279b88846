/-
  structs.Vecs, PutMask: pieces of memory out of bytes; signals as bytes.
-/
import Derived.Test.YtofeamajoahjmaaDoorFTime
import Derived.Laws.BitsAllLaws
import Derived.Deep.RegionHeld3
import Derived.Deep.DeepCutAuto
namespace Go.Proofs.YtofeamajoahjmaaDoor
open Go Go.RowKit
set_option linter.unusedVariables false
set_option linter.unusedSimpArgs false

theorem two_set {w : World} {g : Nat} {u v x y : Value} {T : TypeId} {fr : Nat × Nat} (h : w.heap[g]? = some (.cells #[u, v] T fr)) :
    ((w.setCell ⟨g, 0, none⟩ x).setCell ⟨g, 1, none⟩ y).heap[g]? = some (.cells #[x, y] T fr) := by
  rw [heap_set (heap_set h)]; rfl

theorem beN_lt4 {l : List UInt8} (h : l.length ≤ 4) : beN l < 4294967296 :=
  Nat.lt_of_lt_of_le (beN_lt l) (by
    have : 256 ^ l.length ≤ 256 ^ 4 := Nat.pow_le_pow_right (by omega) h
    simpa using this)

/-- The number of the first four bytes. -/
def wordN (l : List UInt8) : Nat := beN (l.take 4)
theorem wordN_lt (l : List UInt8) : wordN l < 4294967296 := beN_lt4 (by rw [List.length_take]; omega)

set_option maxHeartbeats 1000000 in
theorem word_any (l : List UInt8) (hl : 4 ≤ l.length) (hl2 : l.length ≤ 140737488351232) (w : World) :
    Calls Tryd.prog 31 #[.string (mkB l)] w fun e w' => e = .returned (.int .u32 (wordN l)) ∧ Below w.heap.size w w' := by
  have hsz := mkB_size l
  have hx : (mkB l).extract 0 4 = mkB (l.take 4) := mkB_take l 4
  have hnum : Hid (numF (mkB (l.take 4)) false = (wordN l : Nat)) := Lib.hid (numF_be _ (by rw [List.length_take]; omega))
  have hxs : Hid ((mkB (l.take 4)).size ≤ 9223372036854775807) := Lib.hid (by rw [mkB_size, List.length_take]; omega)
  have hb : (wordN l : Int) ≤ 4294967295 := by have := wordN_lt l; omega
  go_enter Tryd.func31, Tryd.ntmps31
  go_wp2_with (go_at_call 48; refine (be_any _ _ hxs.out).mono ?_; rintro e w1 ⟨rfl, hb1⟩; rw [hnum.out])
  go_ret
  exact ⟨rfl, hb1⟩

def maskB (m : Nat) : List UInt8 := wordsB 4 [m, m / 4294967296, 0, 0]

set_option maxHeartbeats 1000000 in
set_option maxRecDepth 100000 in
theorem putMask_any (m : Nat) (hm : m < 18446744073709551616) (w : World) :
    Calls Tryd.prog 20 #[.int .u64 m] w fun e w' => e = .returned (.string (mkB (maskB m))) ∧ Below w.heap.size w w' := by
  have HAB : Hid (AllU [m, m / 4294967296, 0, 0]) := Lib.hid (fun v hv => by
    simp only [List.mem_cons, List.not_mem_nil, or_false] at hv
    rcases hv with rfl | rfl | rfl | rfl
    · exact hm
    · exact Nat.lt_of_le_of_lt (Nat.div_le_self _ _) hm
    · exact Nat.zero_lt_succ _
    · exact Nat.zero_lt_succ _)
  have HM := Lib.hid hm
  clear hm
  go_enter Tryd.func20, Tryd.ntmps20
  go_upto_region 3 with (go_at_call 33; refine (put_any w.heap.size w.heap.size (w.heap.size + 1) 4 [m, m / 4294967296, 0, 0] HAB.out [] (by simp) _ _ (rowU_of (heap_new _ _ _ (by rw [heap_len])) (by simp)) (by omega) (bld_alloc (bld_new w) _) (by simp only [heap_len]; omega)).mono ?_; rintro e w2 ⟨rfl, k1, k2, k3⟩)
  have K1 := Lib.hid k1
  have HZ : Hid (w.heap.size ≤ w2.heap.size) := Lib.hid (by have := k2.size; simp only [heap_len] at this; omega)
  have K2 : Hid (Below w.heap.size w w2) := Lib.hid ((((Below.refl _ w).alloc (Nat.le_refl _) _).alloc (by rw [heap_len]; omega) _).trans k2)
  clear k1 k2 k3
  go_wp2_with (go_at_call 34; refine (bstr_any _ _ _ _ K1.out HZ.out).mono ?_; rintro e w3 ⟨rfl, _, hb3, _⟩)
  go_ret
  exact ⟨by rfl, K2.out.trans hb3⟩

theorem bytes_toList (l : List UInt8) : (mkB l).toList = l := by
  rw [ByteArray.toList_eq]; exact mkB_list l

theorem and7 (n : Nat) (h : n ≤ 140737488351232) : bits BinOp.and IntKind.i64 (n : Int) 7 = ((n % 8 : Nat) : Int) := by
  have h1 : bits BinOp.and IntKind.i64 (n : Int) 7 = ((n &&& 7 : Nat) : Int) := i64_and_nat n 7 (by omega) (by omega)
  rw [h1, show (7 : Nat) = 2 ^ 3 - 1 from rfl, Nat.and_two_pow_sub_one_eq_mod]

end Go.Proofs.YtofeamajoahjmaaDoor
