/-
  FrameStacks: a frame is on the other stack just if its signal asks for that.
-/
import Derived.Test.YtbaelhaajplbnaaFPlace
import Derived.Laws.BitsAllLaws
namespace Go.Proofs.Ytbaelhaajplbnaa
open Go Go.RowKit
set_option linter.unusedVariables false
set_option linter.unusedSimpArgs false

def cpuZ : Array Value := (cpuK.map fun | .b => Value.bool false | .i k => .int k 0 | .s => .string ByteArray.empty).toArray
def cpuS : Array Value := cpuZ.setIfInBounds 29 (.int .u32 8192)
def sigS : Array Value := sigZ.setIfInBounds 5 (.int .u32 8)
theorem cpu_zero : (Try.prog.info? 25).map (fun i => (i.zero, i.size)) = some (some (.agg cpuZ), 39) := by kernel_rfl

set_option maxRecDepth 10000 in
theorem awake27 (w : World) :
    Calls Try.prog 5 #[] w fun e w' => e = .returned (.bool true) ∧ Below w.heap.size w w' := by
  have z1 := (zero_of_info sig_zero).1
  go_enter Try.func5, Try.ntmps5
  go_upto_region 4 with (fail)
  refine wp_region_lit ?_
  refine wpList_load_row rfl 25 (.tmp 1) rfl w.heap.size rfl 25 cpuS (0, 0) _ ?_ Try.underlying25 rfl ?_ ?_
  · exact (heap_old _ _ _ (by simp only [heap_len]; omega)).trans (heap_new _ _ _ rfl)
  · kernel_rfl
  refine wpList_load_row rfl 40 (.tmp 2) rfl (w.heap.size + 1) rfl 40 sigZ (0, 0) _ ?_ Try.underlying40 rfl ?_ ?_
  · exact heap_new _ _ _ (by simp only [heap_len])
  · kernel_rfl
  have p1 : placeF cpuS sigZ 1 = 7560 := by kernel_rfl
  have p2 : placeF cpuS sigS 1 = 7408 := by kernel_rfl
  go_upto_region 5 with (go_at_call 12; refine (place_in cpuS sigZ (fits_of (by kernel_rfl)) (fits_of (by kernel_rfl)) 1 (by omega) _).mono ?_; rintro e w' ⟨rfl, hb⟩; rw [p1])
  have b1 : w'.heap[w.heap.size]? = some (.cells cpuS 25) := (hb.block _ (by simp only [heap_len]; omega)).trans ((heap_old _ _ _ (by simp only [heap_len]; omega)).trans (heap_new _ _ _ rfl))
  have b2 : w'.heap[w.heap.size + 1]? = some (.cells sigZ 40) := (hb.block _ (by simp only [heap_len]; omega)).trans (heap_new _ _ _ (by simp only [heap_len]))
  have B1 := Lib.hid b1
  have B2 := Lib.hid b2
  have HB : Hid (Below w.heap.size w w') := Lib.hid ((((Below.refl _ _).alloc (Nat.le_refl _) _).alloc (by simp only [heap_len]; omega) _).trans (hb.mono (by simp only [heap_len]; omega)))
  have l1 := cell_at (o := 5) (v := .int .u32 0) b2 (by kernel_rfl)
  have l2 := free_at (o := 5) b2
  clear b1 b2 hb
  go_upto_region 6 with fail
  have b1 := (heap_set_ne w' (w.heap.size + 1) 5 w.heap.size (.int .u32 8) (by omega)).trans B1.out
  have b2 := heap_set (o := 5) (v := .int .u32 8) B2.out
  have B1' := Lib.hid b1
  have B2' := Lib.hid b2
  clear b1 b2 l1 l2
  go_wp2_with (first
    | (refine wpl_load 25 ?_; refine LoadGoal.of cpuS rfl B1'.out (by kernel_rfl) (by kernel_rfl) rfl ?_)
    | (refine wpl_load 40 ?_; refine LoadGoal.of sigS rfl B2'.out (by kernel_rfl) (by kernel_rfl) rfl ?_)
    | (go_at_call 12; refine (place_in cpuS sigS (fits_of (by kernel_rfl)) (fits_of (by kernel_rfl)) 1 (by omega) _).mono ?_; rintro e w2 ⟨rfl, hb⟩; rw [p2]))
  go_ret
  refine ⟨rfl, ?_⟩
  have h3 : Below w.heap.size w (w'.setCell ⟨w.heap.size + 1, 5, none⟩ (.int .u32 8)) := HB.out.setCell (by simp) _
  exact h3.trans (hb.mono (by rw [heap_set_len]; exact HB.out.size))
theorem and_hi8 (x : Nat) (h : x < 4294967296) : x &&& 4294967288 = x / 8 * 8 := by
  apply Nat.eq_of_testBit_eq
  intro i
  rw [Nat.testBit_and, show x / 8 * 8 = (x >>> 3) <<< 3 by simp [Nat.shiftRight_eq_div_pow, Nat.shiftLeft_eq]]
  rw [Nat.testBit_shiftLeft]
  by_cases h3 : 3 ≤ i
  · simp only [h3, decide_true, Bool.true_and, Nat.testBit_shiftRight, show 3 + (i - 3) = i by omega]
    by_cases h32 : i < 32
    · have : ∀ j, j < 32 → 3 ≤ j → Nat.testBit 4294967288 j = true := by decide
      simp [this i h32 h3]
    · have : x.testBit i = false := Nat.testBit_lt_two_pow (Nat.lt_of_lt_of_le h (by
        have : 2 ^ 32 ≤ 2 ^ i := Nat.pow_le_pow_right (by omega) (by omega)
        simpa using this))
      simp [this]
  · have : ∀ j, j < 3 → Nat.testBit 4294967288 j = false := by decide
    simp [h3, this i (by omega)]
theorem andNot7 (x : Int) (h1 : 0 ≤ x) (h2 : x < 4294967296) : bits .andNot .u32 x 7 = x - x % 8 := by
  rw [u32_andNot x 7 h1 h2 (by omega) (by omega)]
  have := and_hi8 x.toNat (by omega)
  simp only [show (7 : Int).toNat = 7 from rfl, show 4294967295 - 7 = 4294967288 from rfl, this]
  omega

theorem place_law (c s : Array Value) (hc : Fits cpuK c.toList) (hs : Fits sigK s.toList) (k : Nat) (size : Int) (hz : size = if hasF s k 8 then 784 else 632) :
    placeF c s k % 8 = 0 ∧ size ≤ (topF c s k - placeF c s k) % 4294967296 ∧ (topF c s k - placeF c s k) % 4294967296 < size + 8 ∧ 0 ≤ placeF c s k ∧ placeF c s k ≤ 4294967295 := by
  have c29 := (hc.iat (i := 29) rfl).2
  rw [wf_u32] at c29
  have ht : 0 ≤ topF c s k ∧ topF c s k < 4294967296 := by
    unfold topF
    split <;> omega
  have hp : placeF c s k = (topF c s k - size) % 4294967296 - (topF c s k - size) % 4294967296 % 8 := by
    rw [placeF, ← hz, andNot7 _ (by omega) (by omega)]
  have hsz : size = 632 ∨ size = 784 := by
    rw [hz]; split <;> simp
  rw [hp]
  omega

end Go.Proofs.Ytbaelhaajplbnaa
