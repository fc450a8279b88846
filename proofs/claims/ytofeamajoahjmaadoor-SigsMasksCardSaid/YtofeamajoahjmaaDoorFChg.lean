/-
  sigs.Change; a mask that was changed and set back is as before; how many signals can be taken.
-/
import Derived.Test.YtofeamajoahjmaaDoorFNext
namespace Go.Proofs.YtofeamajoahjmaaDoor
open Go Go.RowKit
set_option linter.unusedVariables false
set_option linter.unusedSimpArgs false

/-! ### Change -/
theorem ix3 (a b c : Value) (W : World) : (Instr.index 58 (.agg #[a, b, c]) (.int .i64 0)).run Tryd.prog W = .ok a W ∧ (Instr.index 58 (.agg #[a, b, c]) (.int .i64 1)).run Tryd.prog W = .ok b W ∧ (Instr.index 58 (.agg #[a, b, c]) (.int .i64 2)).run Tryd.prog W = .ok c W := by
  refine ⟨?_, ?_, ?_⟩
  all_goals simp [Instr.index, run_underlying Tryd.underlying58, asIntOf, go_sem]
def maskF (old how m : Int) : Int := bits .andNot .u64 (if how = 1 then bits .or .u64 old m else if how = 2 then bits .andNot .u64 old m else m) 4194560
def changeA (cs : Array Value) (how m : Int) : Array Value := cs.setIfInBounds 0 (.int .u64 (maskF (iat cs 0) how m))
theorem change_fits {cs : Array Value} (h : Fits sigK cs.toList) (how m : Int) : Fits sigK (changeA cs how m).toList := sig_set_m h (bits64_in _ _ _)

set_option maxHeartbeats 2000000 in
set_option maxRecDepth 10000 in
theorem sgChange_no (cs : Array Value) (h : Fits sigK cs.toList) (how m : Int) (hh : how < 1 ∨ 3 < how) (w : World) :
    Calls Tryd.prog 11 #[.agg cs, .int .i64 how, .int .u64 m] w fun e w' => e = .returned (.tuple #[.agg cs, .int .u64 0, .int .i64 22]) ∧ Below w.heap.size w w' := by
  have z1 := (zero_of_info sig_zero).1
  have H := Lib.hid h
  clear h
  go_enter Tryd.func11, Tryd.ntmps11
  rcases hh with hh | hh
  · have h1 : decide (how < 1) = true := decide_eq_true hh
    go_wp2_with (first
      | (refine wpl_load 30 ?_; refine LoadGoal.of cs (t := 30) (fr := (0, 0)) rfl ((heap_old _ _ _ (by simp only [heap_len]; omega)).trans (heap_new _ _ _ rfl)) (by kernel_rfl) (sig_sz H.out) rfl ?_)
      | (refine wpl_store 30 ?_; refine StoreGoal.of cs sigZ rfl rfl (heap_new _ _ _ (by simp only [heap_len])) H.out sigZ_fits sig_size ?_))
    refine bodyPost_ret (res_cell_tmp2 rfl (cs := cs) rfl (row_same (heap_new _ _ _ (by simp only [heap_len]))) (by kernel_rfl) (sig_sz H.out)) rfl ?_
    exact ⟨rfl, below_row (((Below.refl _ _).alloc (Nat.le_refl _) _).alloc (by rw [heap_len]; omega) _) _ _ (by omega)⟩
  · have h1 : decide (how < 1) = false := decide_eq_false (by omega)
    have h2 : decide (3 < how) = true := decide_eq_true hh
    go_wp2_with (first
      | (refine wpl_load 30 ?_; refine LoadGoal.of cs (t := 30) (fr := (0, 0)) rfl ((heap_old _ _ _ (by simp only [heap_len]; omega)).trans (heap_new _ _ _ rfl)) (by kernel_rfl) (sig_sz H.out) rfl ?_)
      | (refine wpl_store 30 ?_; refine StoreGoal.of cs sigZ rfl rfl (heap_new _ _ _ (by simp only [heap_len])) H.out sigZ_fits sig_size ?_))
    refine bodyPost_ret (res_cell_tmp2 rfl (cs := cs) rfl (row_same (heap_new _ _ _ (by simp only [heap_len]))) (by kernel_rfl) (sig_sz H.out)) rfl ?_
    exact ⟨rfl, below_row (((Below.refl _ _).alloc (Nat.le_refl _) _).alloc (by rw [heap_len]; omega) _) _ _ (by omega)⟩

set_option maxHeartbeats 2000000 in
set_option maxRecDepth 10000 in
theorem sgChange (cs : Array Value) (h : Fits sigK cs.toList) (how m : Int) (h1 : 1 ≤ how) (h3 : how ≤ 3) (w : World) :
    Calls Tryd.prog 11 #[.agg cs, .int .i64 how, .int .u64 m] w fun e w' => e = .returned (.tuple #[.agg (changeA cs how m), .int .u64 (iat cs 0), .int .i64 0]) ∧ Below w.heap.size w w' := by
  have z1 := (zero_of_info sig_zero).1
  have e0 := (h.iat (i := 0) rfl).1
  have H := Lib.hid h
  have HF := Lib.hid (change_fits h how m)
  clear h
  have x0 := fun a b c W => (ix3 a b c W).1
  have x1 := fun a b c W => (ix3 a b c W).2.1
  have x2 := fun a b c W => (ix3 a b c W).2.2
  have h123 : how = 1 ∨ how = 2 ∨ how = 3 := by omega
  clear h1 h3
  rcases h123 with rfl | rfl | rfl
  · have HA : Hid (changeA cs 1 m = (cs.setIfInBounds 0 (.int .u64 (bits .andNot .u64 (bits .or .u64 (iat cs 0) m) 4194560)))) := Lib.hid (by simp [changeA, maskF])
    rw [HA.out] at HF
    go_enter Tryd.func11, Tryd.ntmps11
    go_wp2_with (first
      | (refine wpl_load 30 ?_; refine LoadGoal.of (cs.setIfInBounds 0 (.int .u64 (bits .andNot .u64 (bits .or .u64 (iat cs 0) m) 4194560))) (t := 30) (fr := (0, 0)) rfl ((heap_old _ _ _ (by simp only [heap_len]; omega)).trans (heap_new _ _ _ rfl)) (by kernel_rfl) (sig_sz HF.out) rfl ?_)
      | (refine wpl_store 30 ?_; refine StoreGoal.of (cs.setIfInBounds 0 (.int .u64 (bits .andNot .u64 (bits .or .u64 (iat cs 0) m) 4194560))) sigZ rfl rfl (heap_new _ _ _ (by simp only [heap_len])) HF.out sigZ_fits sig_size ?_))
    refine bodyPost_ret (res_cell_tmp2 rfl (cs := (cs.setIfInBounds 0 (.int .u64 (bits .andNot .u64 (bits .or .u64 (iat cs 0) m) 4194560)))) rfl (row_same (heap_new _ _ _ (by simp only [heap_len]))) (by kernel_rfl) (sig_sz HF.out)) rfl ?_
    exact ⟨by rw [HA.out]; rfl, below_row (((Below.refl _ _).alloc (Nat.le_refl _) _).alloc (by rw [heap_len]; omega) _) _ _ (by omega)⟩
  · have HA : Hid (changeA cs 2 m = (cs.setIfInBounds 0 (.int .u64 (bits .andNot .u64 (bits .andNot .u64 (iat cs 0) m) 4194560)))) := Lib.hid (by simp [changeA, maskF])
    rw [HA.out] at HF
    go_enter Tryd.func11, Tryd.ntmps11
    go_wp2_with (first
      | (refine wpl_load 30 ?_; refine LoadGoal.of (cs.setIfInBounds 0 (.int .u64 (bits .andNot .u64 (bits .andNot .u64 (iat cs 0) m) 4194560))) (t := 30) (fr := (0, 0)) rfl ((heap_old _ _ _ (by simp only [heap_len]; omega)).trans (heap_new _ _ _ rfl)) (by kernel_rfl) (sig_sz HF.out) rfl ?_)
      | (refine wpl_store 30 ?_; refine StoreGoal.of (cs.setIfInBounds 0 (.int .u64 (bits .andNot .u64 (bits .andNot .u64 (iat cs 0) m) 4194560))) sigZ rfl rfl (heap_new _ _ _ (by simp only [heap_len])) HF.out sigZ_fits sig_size ?_))
    refine bodyPost_ret (res_cell_tmp2 rfl (cs := (cs.setIfInBounds 0 (.int .u64 (bits .andNot .u64 (bits .andNot .u64 (iat cs 0) m) 4194560)))) rfl (row_same (heap_new _ _ _ (by simp only [heap_len]))) (by kernel_rfl) (sig_sz HF.out)) rfl ?_
    exact ⟨by rw [HA.out]; rfl, below_row (((Below.refl _ _).alloc (Nat.le_refl _) _).alloc (by rw [heap_len]; omega) _) _ _ (by omega)⟩
  · have HA : Hid (changeA cs 3 m = (cs.setIfInBounds 0 (.int .u64 (bits .andNot .u64 m 4194560)))) := Lib.hid (by simp [changeA, maskF])
    rw [HA.out] at HF
    go_enter Tryd.func11, Tryd.ntmps11
    go_wp2_with (first
      | (refine wpl_load 30 ?_; refine LoadGoal.of (cs.setIfInBounds 0 (.int .u64 (bits .andNot .u64 m 4194560))) (t := 30) (fr := (0, 0)) rfl ((heap_old _ _ _ (by simp only [heap_len]; omega)).trans (heap_new _ _ _ rfl)) (by kernel_rfl) (sig_sz HF.out) rfl ?_)
      | (refine wpl_store 30 ?_; refine StoreGoal.of (cs.setIfInBounds 0 (.int .u64 (bits .andNot .u64 m 4194560))) sigZ rfl rfl (heap_new _ _ _ (by simp only [heap_len])) HF.out sigZ_fits sig_size ?_))
    refine bodyPost_ret (res_cell_tmp2 rfl (cs := (cs.setIfInBounds 0 (.int .u64 (bits .andNot .u64 m 4194560)))) rfl (row_same (heap_new _ _ _ (by simp only [heap_len]))) (by kernel_rfl) (sig_sz HF.out)) rfl ?_
    exact ⟨by rw [HA.out]; rfl, below_row (((Below.refl _ _).alloc (Nat.le_refl _) _).alloc (by rw [heap_len]; omega) _) _ _ (by omega)⟩

theorem and_compl {x c : Nat} (hx : x < 18446744073709551616) (hc : c < 18446744073709551616) (h : x &&& c = 0) : x &&& (18446744073709551615 - c) = x := by
  apply Nat.eq_of_testBit_eq
  intro i
  rw [Nat.testBit_and, compl_bit _ _ hc]
  cases hi : x.testBit i
  · simp
  · have h2 := bit_lt64 hx hi
    have h3 : (x &&& c).testBit i = false := by rw [h]; simp
    rw [Nat.testBit_and, hi] at h3
    simp only [Bool.true_and] at h3
    rw [h3]; simp [h2]
/-- Changed and set back: as before. -/
theorem change_back {cs : Array Value} (h : Fits sigK cs.toList) (hfit : fitSig cs = true) (how m : Int) : changeA (changeA cs how m) 3 (iat cs 0) = cs := by
  have r0 := (h.iat (i := 0) rfl).2
  rw [wf_u64] at r0
  simp only [fitSig, Bool.and_eq_true] at hfit
  have f0 := fitM_nat r0.1 r0.2 hfit.1.1.1
  have hM : ∀ o, maskF o 3 (iat cs 0) = iat cs 0 := fun o => by
    rw [maskF, if_neg (by omega), if_neg (by omega), u64_andNot _ _ (by omega) (by omega) (by omega) (by omega)]
    have e : (iat cs 0).toNat &&& (18446744073709551615 - (4194560 : Int).toNat) = (iat cs 0).toNat := and_compl (by omega) (by decide) f0
    rw [e]; omega
  apply Array.ext_getElem?
  intro i
  rw [changeA, hM, set_get, changeA, set_get]
  have hs : cs.size = 197 := h.arr_size
  by_cases e : 0 = i
  · subst e
    rw [if_pos ⟨rfl, by simp only [Array.size_setIfInBounds]; omega⟩]
    exact (h.iat (i := 0) rfl).1.symm
  · rw [if_neg (fun c => e c.1), if_neg (fun c => e c.1)]

/-! ### How many can be taken -/
def popN (x : Nat) : Nat := (List.range 64).countP fun i => x.testBit i
theorem count_lt {p q : Nat → Bool} {k : Nat} : ∀ {l : List Nat}, (∀ i, q i = true → p i = true) → k ∈ l → p k = true → q k = false → l.countP q < l.countP p
  | a :: l, hqp, hk, hp, hq => by
    rcases List.mem_cons.1 hk with rfl | hk
    · rw [List.countP_cons_of_neg (by rw [hq]; exact Bool.false_ne_true), List.countP_cons_of_pos hp]
      have : l.countP q ≤ l.countP p := List.countP_mono_left (fun i _ h => hqp i h)
      omega
    · have ih := count_lt hqp hk hp hq
      rw [List.countP_cons, List.countP_cons]
      have : (if q a = true then 1 else 0) ≤ (if p a = true then 1 else 0) := by
        by_cases h : q a = true
        · rw [if_pos h, if_pos (hqp a h)]; exact Nat.le_refl _
        · rw [if_neg h]; exact Nat.zero_le _
      omega
theorem pop_le (x : Nat) : popN x ≤ 64 := by
  have : popN x ≤ (List.range 64).length := List.countP_le_length
  simpa using this
theorem pop_pos {x k : Nat} (hk : k < 64) (h : x.testBit k = true) : 1 ≤ popN x := by
  have : 0 < popN x := List.countP_pos_iff.2 ⟨k, List.mem_range.2 hk, h⟩
  omega
theorem take_iat0 {cs : Array Value} (h : Fits sigK cs.toList) (n : Int) : iat (takeA cs n) 0 = iat cs 0 := by
  have : (takeA cs n)[0]? = cs[0]? := by rw [takeA, set_get, if_neg (by omega)]
  rw [iat, this]; rfl
theorem take_iat1 {cs : Array Value} (h : Fits sigK cs.toList) (n : Int) : iat (takeA cs n) 1 = bits .andNot .u64 (iat cs 1) (bitN n) := by
  have hs : cs.size = 197 := h.arr_size
  have : (takeA cs n)[1]? = some (.int .u64 (bits .andNot .u64 (iat cs 1) (bitN n))) := by rw [takeA, set_get, if_pos ⟨rfl, by omega⟩]
  rw [iat, this]
theorem take_bit {cs : Array Value} (h : Fits sigK cs.toList) (x : Nat) (hx : x < 64) (i : Nat) : (canN (takeA cs ((x : Int) + 1))).testBit i = ((canN cs).testBit i && decide (i ≠ x)) := by
  have r0 := (h.iat (i := 0) rfl).2
  have r1 := (h.iat (i := 1) rfl).2
  rw [wf_u64] at r0 r1
  have hp := pow_lt64 hx
  rw [canN, canN, take_iat0 h, take_iat1 h, bitN_k, u64_andNot _ _ r1.1 (by omega) (Int.natCast_nonneg _) (Int.ofNat_lt.2 hp)]
  simp only [Int.toNat_natCast, Nat.testBit_and, compl_bit _ _ hp, Nat.testBit_two_pow]
  cases h1 : (iat cs 1).toNat.testBit i
  · simp
  · have hi := bit_lt64 (by omega) h1
    by_cases e : x = i
    · subst e; simp
    · have e' : i ≠ x := fun q => e q.symm
      simp [e, e', hi]
theorem raise_bit {cs : Array Value} (h : Fits sigK cs.toList) (k : Nat) (hk : k < 64) (hm : (iat cs 0).toNat.testBit k = false) : (canN (cs.setIfInBounds 1 (.int .u64 (raiseW cs k)))).testBit k = true := by
  have r0 := (h.iat (i := 0) rfl).2
  have r1 := (h.iat (i := 1) rfl).2
  rw [wf_u64] at r0 r1
  have hs : cs.size = 197 := h.arr_size
  have hp := pow_lt64 hk
  have i0 : iat (cs.setIfInBounds 1 (.int .u64 (raiseW cs k))) 0 = iat cs 0 := by
    have : (cs.setIfInBounds 1 (.int .u64 (raiseW cs k)))[0]? = cs[0]? := by rw [set_get, if_neg (by omega)]
    rw [iat, this]; rfl
  have i1 : iat (cs.setIfInBounds 1 (.int .u64 (raiseW cs k))) 1 = raiseW cs k := by
    have : (cs.setIfInBounds 1 (.int .u64 (raiseW cs k)))[1]? = some (.int .u64 (raiseW cs k)) := by rw [set_get, if_pos ⟨rfl, by omega⟩]
    rw [iat, this]
  rw [canN, i0, i1, raiseW, bitN_k, u64_or _ _ r1.1 (by omega) (Int.natCast_nonneg _) (Int.ofNat_lt.2 hp)]
  simp only [Int.toNat_natCast, Nat.testBit_and, compl_bit _ _ (show (iat cs 0).toNat < 18446744073709551616 by omega), Nat.testBit_or, Nat.testBit_two_pow, hm]
  simp [hk]
/-- One taken that is not k: k waits yet, and there is one less. -/
theorem next_keeps {cs : Array Value} (h : Fits sigK cs.toList) (k : Nat) (hk : k < 64) (hb : (canN cs).testBit k = true) (hne : nextI cs ≠ (k : Int) + 1) :
    (canN (nextA cs)).testBit k = true ∧ popN (canN (nextA cs)) < popN (canN cs) := by
  cases hr : readyL (canN cs) with
  | nil =>
    have := ready_nil (canN_lt cs) hr
    rw [this] at hb; simp at hb
  | cons x t =>
    obtain ⟨hx, hbit, _⟩ := ready_head (canN_lt cs) hr
    have hte : takeE x = (x : Int) + 1 := by rw [takeE, Nat.mod_eq_of_lt hx]
    have hA : nextA cs = takeA cs ((x : Int) + 1) := by rw [nextA, hr, ← hte]
    have hI : nextI cs = (x : Int) + 1 := by rw [nextI, hr, ← hte]
    have hxk : k ≠ x := fun e => hne (by rw [hI, e])
    rw [hA]
    refine ⟨by rw [take_bit h x hx, hb]; simp [hxk], ?_⟩
    refine count_lt (k := x) (fun i hi => ?_) (List.mem_range.2 hx) hbit ?_
    · rw [take_bit h x hx] at hi
      simp only [Bool.and_eq_true] at hi
      exact hi.1
    · rw [take_bit h x hx]; simp

theorem maskBit (m k : Nat) (hm : m < 18446744073709551616) (h : (bits BinOp.and .u64 ((m : Int) / ((2 ^ k : Nat) : Int)) 1 == 1) = false) : m.testBit k = false := by
  have e : ((m : Int) / ((2 ^ k : Nat) : Int)) = ((m / 2 ^ k : Nat) : Int) := by simp
  have hd : m / 2 ^ k ≤ m := Nat.div_le_self _ _
  have h1 : bits BinOp.and .u64 ((m / 2 ^ k : Nat) : Int) 1 = (((m / 2 ^ k) &&& 1 : Nat) : Int) := u64_and_nat _ 1 (by omega) (by omega)
  rw [e, h1, nat_mask1] at h
  rw [Nat.testBit_eq_decide_div_mod_eq]
  have h2 : ¬ (m / 2 ^ k % 2 = 1) := by
    intro c
    rw [c] at h; simp at h
  simp [h2]

end Go.Proofs.YtofeamajoahjmaaDoor
