/-
  FrameStacks: a frame is on the other stack just if its signal asks for that.
-/
import Derived.Test.YtofeamajoahjmaaFPlace
import Derived.Laws.BitsAllLaws
namespace Go.Proofs.Ytofeamajoahjmaa
open Go Go.RowKit
set_option linter.unusedVariables false
set_option linter.unusedSimpArgs false

def sigZ : Array Value := (sigK.map fun | .b => Value.bool false | .i k => .int k 0 | .s => .string ByteArray.empty).toArray
def cpuZ : Array Value := (cpuK.map fun | .b => Value.bool false | .i k => .int k 0 | .s => .string ByteArray.empty).toArray
def cpuS : Array Value := cpuZ.setIfInBounds 29 (.int .u32 8192)
def sigS : Array Value := sigZ.setIfInBounds 5 (.int .u32 8)
theorem sig_zero : (Try.prog.info? 33).map (fun i => (i.zero, i.size)) = some (some (.agg sigZ), 197) := by kernel_rfl
theorem cpu_zero : (Try.prog.info? 25).map (fun i => (i.zero, i.size)) = some (some (.agg cpuZ), 39) := by kernel_rfl

set_option maxRecDepth 10000 in
theorem awake27 (w : World) :
    Calls Try.prog 9 #[] w fun e w' => e = .returned (.bool true) ∧ Below w.heap.size w w' := by
  have z1 := (zero_of_info sig_zero).1
  go_enter Try.func9, Try.ntmps9
  go_upto_region 4 with (fail)
  refine wp_region_lit ?_
  refine wpList_load_row rfl 25 (.tmp 1) rfl w.heap.size rfl 25 cpuS (0, 0) _ ?_ Try.underlying25 rfl ?_ ?_
  · exact (heap_old _ _ _ (by simp only [heap_len]; omega)).trans (heap_new _ _ _ rfl)
  · kernel_rfl
  refine wpList_load_row rfl 33 (.tmp 2) rfl (w.heap.size + 1) rfl 33 sigZ (0, 0) _ ?_ Try.underlying33 rfl ?_ ?_
  · exact heap_new _ _ _ (by simp only [heap_len])
  · kernel_rfl
  have p1 : placeF cpuS sigZ 1 = 7560 := by kernel_rfl
  have p2 : placeF cpuS sigS 1 = 7408 := by kernel_rfl
  go_upto_region 5 with (go_at_call 10; refine (place_in cpuS sigZ (fits_of (by kernel_rfl)) (fits_of (by kernel_rfl)) 1 (by omega) _).mono ?_; rintro e w' ⟨rfl, hb⟩; rw [p1])
  have b1 : w'.heap[w.heap.size]? = some (.cells cpuS 25) := (hb.block _ (by simp only [heap_len]; omega)).trans ((heap_old _ _ _ (by simp only [heap_len]; omega)).trans (heap_new _ _ _ rfl))
  have b2 : w'.heap[w.heap.size + 1]? = some (.cells sigZ 33) := (hb.block _ (by simp only [heap_len]; omega)).trans (heap_new _ _ _ (by simp only [heap_len]))
  have B1 := Lib.hid b1
  have B2 := Lib.hid b2
  have HB : Hid (Below w.heap.size w w') := Lib.hid ((((Below.refl _ _).alloc (Nat.le_refl _) _).alloc (by simp only [heap_len]; omega) _).trans (hb.mono (by simp only [heap_len]; omega)))
  have l1 := cell_at (o := 5) (v := .int .u32 0) b2 (by kernel_rfl)
  have l2 := free_at (o := 5) b2
  clear b1 b2 hb
  go_upto_region 6 with fail
  have b1 := (heap_set_ne w' (w.heap.size + 1) 5 w.heap.size (.int .u32 8) (by omega)).trans B1.out
  have b2 := heap_set (o := 5) (v := .int .u32 8) B2.out
  have B1' := Lib.hid b1
  have B2' := Lib.hid b2
  clear b1 b2 l1 l2
  go_wp2_with (first
    | (refine wpl_load 25 ?_; refine LoadGoal.of cpuS rfl B1'.out (by kernel_rfl) (by kernel_rfl) rfl ?_)
    | (refine wpl_load 33 ?_; refine LoadGoal.of sigS rfl B2'.out (by kernel_rfl) (by kernel_rfl) rfl ?_)
    | (go_at_call 10; refine (place_in cpuS sigS (fits_of (by kernel_rfl)) (fits_of (by kernel_rfl)) 1 (by omega) _).mono ?_; rintro e w2 ⟨rfl, hb⟩; rw [p2]))
  go_ret
  refine ⟨rfl, ?_⟩
  have h3 : Below w.heap.size w (w'.setCell ⟨w.heap.size + 1, 5, none⟩ (.int .u32 8)) := HB.out.setCell (by simp) _
  exact h3.trans (hb.mono (by rw [heap_set_len]; exact HB.out.size))
theorem and_hi8 (x : Nat) (h : x < 4294967296) : x &&& 4294967288 = x / 8 * 8 := by
  apply Nat.eq_of_testBit_eq
  intro i
  rw [Nat.testBit_and, show x / 8 * 8 = (x >>> 3) <<< 3 by simp [Nat.shiftRight_eq_div_pow, Nat.shiftLeft_eq]]
  rw [Nat.testBit_shiftLeft]
  by_cases h3 : 3 ≤ i
  · simp only [h3, decide_true, Bool.true_and, Nat.testBit_shiftRight, show 3 + (i - 3) = i by omega]
    by_cases h32 : i < 32
    · have : ∀ j, j < 32 → 3 ≤ j → Nat.testBit 4294967288 j = true := by decide
      simp [this i h32 h3]
    · have : x.testBit i = false := Nat.testBit_lt_two_pow (Nat.lt_of_lt_of_le h (by
        have : 2 ^ 32 ≤ 2 ^ i := Nat.pow_le_pow_right (by omega) (by omega)
        simpa using this))
      simp [this]
  · have : ∀ j, j < 3 → Nat.testBit 4294967288 j = false := by decide
    simp [h3, this i (by omega)]
theorem andNot7 (x : Int) (h1 : 0 ≤ x) (h2 : x < 4294967296) : bits .andNot .u32 x 7 = x - x % 8 := by
  rw [u32_andNot x 7 h1 h2 (by omega) (by omega)]
  have := and_hi8 x.toNat (by omega)
  simp only [show (7 : Int).toNat = 7 from rfl, show 4294967295 - 7 = 4294967288 from rfl, this]
  omega

theorem place_law (c s : Array Value) (hc : Fits cpuK c.toList) (hs : Fits sigK s.toList) (k : Nat) (size : Int) (hz : size = if hasF s k 8 then 784 else 632) :
    placeF c s k % 8 = 0 ∧ size ≤ (topF c s k - placeF c s k) % 4294967296 ∧ (topF c s k - placeF c s k) % 4294967296 < size + 8 ∧ 0 ≤ placeF c s k ∧ placeF c s k ≤ 4294967295 := by
  have c29 := (hc.iat (i := 29) rfl).2
  rw [wf_u32] at c29
  have ht : 0 ≤ topF c s k ∧ topF c s k < 4294967296 := by
    unfold topF
    split <;> omega
  have hp : placeF c s k = (topF c s k - size) % 4294967296 - (topF c s k - size) % 4294967296 % 8 := by
    rw [placeF, ← hz, andNot7 _ (by omega) (by omega)]
  have hsz : size = 632 ∨ size = 784 := by
    rw [hz]; split <;> simp
  rw [hp]
  omega

set_option maxHeartbeats 4000000 in
set_option maxRecDepth 100000 in
theorem stacks_walk (c s : Array Value) (hc : Fits cpuK c.toList) (hs : Fits sigK s.toList) (n : Int) (hn : (Lit.int .u8 n).wf = true) (w : World) :
    Calls Try.prog 3 #[.agg c, .agg s, .int .u8 n] w fun e w' => e = .returned (.bool true) ∧ Below w.heap.size w w' := by
  rw [wf_u8] at hn
  obtain ⟨n1, n2⟩ := hn
  obtain ⟨k, hk⟩ : ∃ k : Nat, n % 64 = k := ⟨(n % 64).toNat, by omega⟩
  have hk64 : k < 64 := by omega
  have szS : (Try.prog.info? 33).map (·.size) = some s.size := by rw [hs.arr_size]; kernel_rfl
  have szC : (Try.prog.info? 25).map (·.size) = some c.size := by rw [hc.arr_size]; kernel_rfl
  have SZS := Lib.hid szS; have SZC := Lib.hid szC; clear szS szC
  have HC := Lib.hid hc; have HS := Lib.hid hs; clear hc hs
  cases c0 : (iat c 0 == 0)
  · have C0 := Lib.hid c0; clear c0
    go_enter Try.func3, Try.ntmps3
    go_wp2_with (first
      | (refine wpl_load 25 ?_; refine LoadGoal.of c (t := 25) (fr := (0, 0)) rfl ?_ (by kernel_rfl) SZC.out rfl ?_; exact (heap_old _ _ _ (by simp only [heap_len]; omega)).trans (heap_new _ _ _ rfl))
      | (refine wpl_load 33 ?_; refine LoadGoal.skip rfl ?_)
      | (go_at_call 7; refine (fit27_any c HC.out _).mono ?_; rintro e w' ⟨rfl, rfl⟩; rw [C0.out])
      | (go_at_call 9; refine (awake27 _).mono ?_; rintro e w' ⟨rfl, hb⟩))
    go_ret
    exact ⟨rfl, Below.trans (by (repeat (first | exact Below.refl _ _ | (refine below_drewN ?_ _) | (refine Below.alloc ?_ (by (try simp only [heap_len, heap_drewN]); omega) _)))) (hb.mono (by simp only [heap_len]; omega))⟩
  · have C0 := Lib.hid c0; clear c0
    cases c1 : fitSig s
    · have C1 := Lib.hid c1; clear c1
      go_enter Try.func3, Try.ntmps3
      go_wp2_with (first
        | (refine wpl_load 25 ?_; refine LoadGoal.of c (t := 25) (fr := (0, 0)) rfl ?_ (by kernel_rfl) SZC.out rfl ?_; exact (heap_old _ _ _ (by simp only [heap_len]; omega)).trans (heap_new _ _ _ rfl))
        | (refine wpl_load 33 ?_; refine LoadGoal.of s (t := 33) (fr := (0, 0)) rfl ?_ (by kernel_rfl) SZS.out rfl ?_; exact (heap_old _ _ _ (by simp only [heap_len]; omega)).trans ((heap_old _ _ _ (by simp only [heap_len]; omega)).trans (heap_new _ _ _ (by simp only [heap_len]))))
        | (go_at_call 7; refine (fit27_any c HC.out _).mono ?_; rintro e w' ⟨rfl, rfl⟩; rw [C0.out])
        | (go_at_call 8; refine (fit26_any s HS.out _).mono ?_; rintro e w' ⟨rfl, m, rfl⟩; rw [C1.out])
        | (go_at_call 9; refine (awake27 _).mono ?_; rintro e w' ⟨rfl, hb⟩))
      go_ret
      exact ⟨rfl, Below.trans (by (repeat (first | exact Below.refl _ _ | (refine below_drewN ?_ _) | (refine Below.alloc ?_ (by (try simp only [heap_len, heap_drewN]); omega) _)))) (hb.mono (by simp only [heap_len, heap_drewN]; omega))⟩
    · have C1 := Lib.hid c1; clear c1
      go_enter Try.func3, Try.ntmps3
      go_upto_region 4 with (first
        | (refine wpl_load 25 ?_; refine LoadGoal.of c (t := 25) (fr := (0, 0)) rfl ?_ (by kernel_rfl) SZC.out rfl ?_; exact (heap_old _ _ _ (by simp only [heap_len]; omega)).trans (heap_new _ _ _ rfl))
        | (refine wpl_load 33 ?_; refine LoadGoal.of s (t := 33) (fr := (0, 0)) rfl ?_ (by kernel_rfl) SZS.out rfl ?_; exact (heap_old _ _ _ (by simp only [heap_len]; omega)).trans ((heap_old _ _ _ (by simp only [heap_len]; omega)).trans (heap_new _ _ _ (by simp only [heap_len]))))
        | (go_at_call 7; refine (fit27_any c HC.out _).mono ?_; rintro e w' ⟨rfl, rfl⟩; rw [C0.out])
        | (go_at_call 8; refine (fit26_any s HS.out _).mono ?_; rintro e w' ⟨rfl, m, rfl⟩; rw [C1.out])
        | (go_at_call 9; refine (awake27 _).mono ?_; rintro e w' ⟨rfl, hb⟩))
      obtain ⟨W, hW⟩ : ∃ W, W = (((((w.alloc (.cells c 25)).alloc (.cells s 33)).alloc (.cells c 25)).alloc (.cells c 25)).alloc (.cells s 33)).drewN m := ⟨_, rfl⟩
      have B1 : Hid (W.heap[w.heap.size]? = some (.cells c 25)) := Lib.hid (by rw [hW]; exact (heap_old _ _ _ (by simp only [heap_len]; omega)).trans ((heap_old _ _ _ (by simp only [heap_len]; omega)).trans ((heap_old _ _ _ (by simp only [heap_len]; omega)).trans ((heap_old _ _ _ (by simp only [heap_len]; omega)).trans (heap_new _ _ _ rfl)))))
      have B2 : Hid (W.heap[w.heap.size + 1]? = some (.cells s 33)) := Lib.hid (by rw [hW]; exact (heap_old _ _ _ (by simp only [heap_len]; omega)).trans ((heap_old _ _ _ (by simp only [heap_len]; omega)).trans ((heap_old _ _ _ (by simp only [heap_len]; omega)).trans (heap_new _ _ _ (by simp only [heap_len])))))
      have HB : Hid (Below w.heap.size w W) := Lib.hid (by rw [hW]; (repeat (first | exact Below.refl _ _ | (refine below_drewN ?_ _) | (refine Below.alloc ?_ (by (try simp only [heap_len, heap_drewN]); omega) _))))
      have HZ : w.heap.size + 2 ≤ W.heap.size := by rw [hW, heap_drewN]; simp only [heap_len]; omega
      rw [← hW]
      clear hW
      go_upto_region 5 with (first
        | (refine wpl_load 25 ?_; refine LoadGoal.of c rfl B1.out (by kernel_rfl) SZC.out rfl ?_)
        | (refine wpl_load 33 ?_; refine LoadGoal.of s rfl B2.out (by kernel_rfl) SZS.out rfl ?_)
        | (go_at_call 10; refine (place_in c s HC.out HS.out k hk64 _).mono ?_; rintro e w' ⟨rfl, hb⟩))
      have b1 : w'.heap[w.heap.size]? = some (.cells c 25) := (hb.block _ (by omega)).trans B1.out
      have b2 : w'.heap[w.heap.size + 1]? = some (.cells s 33) := (hb.block _ (by omega)).trans B2.out
      have HB' : Hid (Below w.heap.size w w') := Lib.hid (HB.out.trans (hb.mono (by omega)))
      have l29 := cell_at b1 (HC.out.iat (i := 29) rfl).1
      have lf := cell_at b2 (HS.out.iat (sigK_fl k hk64)).1
      have lh := cell_at b2 (HS.out.iat (sigK_hd k hk64)).1
      have lm := cell_at b2 (HS.out.iat (sigK_ms k hk64)).1
      have l194 := cell_at b2 (HS.out.iat (i := 194) rfl).1
      have l195 := cell_at b2 (HS.out.iat (i := 195) rfl).1
      have l196 := cell_at b2 (HS.out.bat (i := 196) rfl)
      have r29 := (HC.out.iat (i := 29) rfl).2
      have r194 := (HS.out.iat (i := 194) rfl).2
      have r195 := (HS.out.iat (i := 195) rfl).2
      rw [wf_u32] at r29 r194 r195
      obtain ⟨r29a, r29b⟩ := r29
      obtain ⟨r194a, r194b⟩ := r194
      obtain ⟨r195a, r195b⟩ := r195
      have z1 : w.heap.size < w'.heap.size := by have := heap_lt b2; omega
      have z2 : w.heap.size + 1 < w'.heap.size := heap_lt b2
      clear b1 b2 hb B1 B2 HB HZ
      have L := Lib.hid (place_law c s HC.out HS.out k _ rfl)
      have LT : Hid (topF c s k = if (bits BinOp.and IntKind.u32 (iat s (2 + k * 3)) 134217728 != 0) && (bat s 196 && !decide ((iat c 29 - iat s 194) % 4294967296 < iat s 195)) then (iat s 194 + iat s 195) % 4294967296 else iat c 29) := Lib.hid (by
        rw [topF, hasF, show decide (iat s 195 ≤ (iat c 29 - iat s 194) % 4294967296) = !decide ((iat c 29 - iat s 194) % 4294967296 < iat s 195) by
          rw [Bool.eq_iff_iff]; simp])
      go_upto_region 12 with fail
      all_goals
        have L' := L.out
        have LT' := LT.out
        clear L LT lf lh lm l194 l195 l196 l29
        by_cases dO : (iat c 29 - iat s 194) % 4294967296 < iat s 195
        all_goals
          (try simp only [Bool.not_eq_true', decide_eq_false_iff_not, decide_eq_true_eq, Int.not_lt, Bool.not_eq_false', Bool.not_eq_true, bne_eq_false_iff_eq, bne_iff_ne, ne_eq] at *)
          first
            | (exfalso; omega)
            | (simp only [hasF] at L'
               simp [*] at LT'
               rw [LT'] at L'
               simp [*] at L'
               obtain ⟨p8, q1, q2, q3, q4⟩ := L'
               clear LT'
               go_wp2_with (go_at_call 9; refine (awake27 _).mono ?_; rintro e w3 ⟨rfl, hb3⟩)
               go_ret
               exact ⟨rfl, Below.trans (HB'.out.trans (by (repeat (first | exact Below.refl _ _ | (refine below_drewN ?_ _) | (refine Below.alloc ?_ (by (try simp only [heap_len, heap_drewN]); omega) _))))) (hb3.mono (by simp only [heap_len]; omega))⟩)
end Go.Proofs.Ytofeamajoahjmaa
