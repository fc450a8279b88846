/-
  sigs: a handler begun, one raised, a mask changed.
-/
import Derived.Test.YtofeamajoahjmaaDoorFSgs
namespace Go.Proofs.YtofeamajoahjmaaDoor
open Go Go.RowKit
set_option linter.unusedVariables false
set_option linter.unusedSimpArgs false

theorem sig_size : (Tryd.prog.info? 30).map (·.size) = some sigK.length := by kernel_rfl
theorem sigZ_fits : Fits sigK sigZ.toList := fits_of (by kernel_rfl)
theorem sig_agg : isAggB Tryd.prog 30 = true := by kernel_rfl
theorem sig_sz {cs : Array Value} (h : Fits sigK cs.toList) : (Tryd.prog.info? 30).map (·.size) = some cs.size := by rw [h.arr_size]; exact sig_size

/-- Behind a handler of k + 1 was begun. -/
def enterM (cs : Array Value) (k : Nat) : Int :=
  bits BinOp.andNot .u64 (bits BinOp.or .u64 (bits BinOp.or .u64 (iat cs 0) (iat cs (2 + k * 3 + 2))) (if bits BinOp.and .u32 (iat cs (2 + k * 3)) 1073741824 != 0 then 0 else bitN ((k : Int) + 1))) 4194560
def resetA (cs : Array Value) (k : Nat) : Array Value :=
  if bits BinOp.and .u32 (iat cs (2 + k * 3)) 2147483648 != 0 then ((cs.setIfInBounds (2 + k * 3) (.int .u32 0)).setIfInBounds (2 + k * 3 + 1) (.int .u32 0)).setIfInBounds (2 + k * 3 + 2) (.int .u64 0) else cs
def enterA (cs : Array Value) (k : Nat) : Array Value := (resetA cs k).setIfInBounds 0 (.int .u64 (enterM cs k))
theorem sig_set_m {cs : Array Value} (h : Fits sigK cs.toList) {n : Int} (hn : 0 ≤ n ∧ n ≤ 18446744073709551615) : Fits sigK (cs.setIfInBounds 0 (.int .u64 n)).toList :=
  h.arr_set (fun k hk => by obtain rfl : k = .i .u64 := (Option.some.inj hk).symm; exact ⟨n, rfl, wf_u64.2 hn⟩)
theorem sig_set_w {cs : Array Value} (h : Fits sigK cs.toList) {n : Int} (hn : 0 ≤ n ∧ n ≤ 18446744073709551615) : Fits sigK (cs.setIfInBounds 1 (.int .u64 n)).toList :=
  h.arr_set (fun k hk => by obtain rfl : k = .i .u64 := (Option.some.inj hk).symm; exact ⟨n, rfl, wf_u64.2 hn⟩)
theorem bits64_in (op : BinOp) (x y : Int) : 0 ≤ bits op .u64 x y ∧ bits op .u64 x y ≤ 18446744073709551615 := by
  obtain ⟨z, hz⟩ : ∃ z, bits op .u64 x y = IntKind.u64.wrap z := ⟨_, rfl⟩
  rw [hz, IntKind.wrap_u64]
  omega
theorem reset_fits {cs : Array Value} (h : Fits sigK cs.toList) (k : Nat) (hk : k < 64) : Fits sigK (resetA cs k).toList := by
  unfold resetA
  split
  · refine Fits.arr_set (Fits.arr_set (Fits.arr_set h ?_) ?_) ?_
    · intro c hc; rw [sigK_fl k hk] at hc; obtain rfl := (Option.some.inj hc).symm; exact ⟨0, rfl, by decide⟩
    · intro c hc; rw [sigK_hd k hk] at hc; obtain rfl := (Option.some.inj hc).symm; exact ⟨0, rfl, by decide⟩
    · intro c hc; rw [sigK_ms k hk] at hc; obtain rfl := (Option.some.inj hc).symm; exact ⟨0, rfl, by decide⟩
  · exact h
theorem enter_fits {cs : Array Value} (h : Fits sigK cs.toList) (k : Nat) (hk : k < 64) : Fits sigK (enterA cs k).toList := sig_set_m (reset_fits h k hk) (bits64_in _ _ _)

set_option maxHeartbeats 2000000 in
set_option maxRecDepth 10000 in
theorem sgEnter (cs : Array Value) (h : Fits sigK cs.toList) (k : Nat) (hk : k < 64) (w : World) :
    Calls Tryd.prog 14 #[.agg cs, .int .i64 ((k : Int) + 1)] w fun e w' => e = .returned (.agg (enterA cs k)) ∧ Below w.heap.size w w' := by
  have z1 := (zero_of_info sig_zero).1
  have e0 := (h.iat (i := 0) rfl).1
  have ef := (h.iat (sigK_fl k hk)).1
  have eh := (h.iat (sigK_hd k hk)).1
  have em := (h.iat (sigK_ms k hk)).1
  have H := Lib.hid h
  clear h
  have hk2 : (k : Int) + 1 ≤ 64 := by omega
  cases c1 : (bits BinOp.and IntKind.u32 (iat cs (2 + k * 3)) 1073741824 != 0)
  all_goals
    cases c2 : (bits BinOp.and IntKind.u32 (iat cs (2 + k * 3)) 2147483648 != 0)
    all_goals
      have HE : Hid (enterA cs k = enterA cs k) := Lib.hid rfl
      have HC1 := Lib.hid c1; have HC2 := Lib.hid c2
      go_enter Tryd.func14, Tryd.ntmps14
      go_upto_region 10 with (first
        | (go_at_call 27; refine (sgIs _ (by omega) (by omega) _).mono ?_; rintro e w1 ⟨rfl, hw⟩; rw [hw]; clear hw)
        | (go_at_call 26; refine (sgBit _ (by omega) (by omega) _).mono ?_; rintro e w1 ⟨rfl, hw⟩; rw [hw]; clear hw))
      go_wp2_with (first
        | (refine wpl_load 30 ?_; refine LoadGoal.of (enterA cs k) (t := 30) (fr := (0, 0)) rfl ?_ (by kernel_rfl) (sig_sz (enter_fits H.out k hk)) rfl ?_; (simp only [enterA, resetA, enterM, HC1.out, HC2.out, if_true, if_false, Bool.false_eq_true, reduceIte]; exact (heap_old _ _ _ (by simp only [heap_len]; omega)).trans ((heap_old _ _ _ (by simp only [heap_len]; omega)).trans (heap_new _ _ _ rfl))))
        | (refine wpl_store 30 ?_; refine StoreGoal.of (enterA cs k) sigZ rfl rfl ((heap_old _ _ _ (by simp only [heap_len]; omega)).trans (heap_new _ _ _ (by simp only [heap_len]))) (enter_fits H.out k hk) sigZ_fits sig_size ?_))
      refine bodyPost_ret (res_cell rfl (cs := enterA cs k) rfl (row_same ((heap_old _ _ _ (by simp only [heap_len]; omega)).trans (heap_new _ _ _ (by simp only [heap_len])))) (by kernel_rfl) (sig_sz (enter_fits H.out k hk))) rfl ?_
      exact ⟨rfl, below_row ((((Below.refl _ _).alloc (Nat.le_refl _) _).alloc (by rw [heap_len]; omega) _).alloc (by simp only [heap_len]; omega) _) _ _ (by omega)⟩

/-- k + 1 raised. -/
def raiseW (cs : Array Value) (k : Nat) : Int := bits BinOp.or .u64 (iat cs 1) (bitN ((k : Int) + 1))
def quietB (cs : Array Value) (k : Nat) : Bool := whatF cs k == 1 && bits BinOp.and .u64 (iat cs 0) (bitN ((k : Int) + 1)) == 0
def raiseA (cs : Array Value) (k : Nat) : Array Value := if quietB cs k then cs else cs.setIfInBounds 1 (.int .u64 (raiseW cs k))
theorem raise_fits {cs : Array Value} (h : Fits sigK cs.toList) (k : Nat) : Fits sigK (raiseA cs k).toList := by
  unfold raiseA
  split
  · exact h
  · exact sig_set_w h (bits64_in _ _ _)

set_option maxHeartbeats 2000000 in
set_option maxRecDepth 10000 in
theorem sgRaise (cs : Array Value) (h : Fits sigK cs.toList) (k : Nat) (hk : k < 64) (w : World) :
    Calls Tryd.prog 12 #[.agg cs, .int .i64 ((k : Int) + 1)] w fun e w' => e = .returned (.tuple #[.agg (raiseA cs k), .int .i64 0]) ∧ Below w.heap.size w w' := by
  have z1 := (zero_of_info sig_zero).1
  have e0 := (h.iat (i := 0) rfl).1
  have e1 := (h.iat (i := 1) rfl).1
  have H := Lib.hid h
  clear h
  have hk2 : (k : Int) + 1 ≤ 64 := by omega
  have HK2 := Lib.hid hk2
  obtain ⟨v, hv⟩ : ∃ v, v = whatF cs k := ⟨_, rfl⟩
  have HV := Lib.hid hv
  clear hv
  cases c1 : (v == 1)
  · have HA : Hid (raiseA cs k = cs.setIfInBounds 1 (.int .u64 (raiseW cs k))) := Lib.hid (by rw [raiseA, quietB, ← HV.out, c1]; rfl)
    have HF : Hid (Fits sigK (cs.setIfInBounds 1 (.int .u64 (raiseW cs k))).toList) := Lib.hid (by rw [← HA.out]; exact raise_fits H.out k)
    go_enter Tryd.func12, Tryd.ntmps12
    go_upto_region 3 with (first
        | (go_at_call 27; refine (sgIs _ (by omega) (by omega) _).mono ?_; rintro e w1 ⟨rfl, hw⟩; rw [hw]; clear hw))
    obtain ⟨W0, hW0⟩ : ∃ W0, W0 = (w.alloc (.cells cs 30)).alloc (.cells sigZ 30) := ⟨_, rfl⟩
    have hz0 : W0.heap.size = w.heap.size + 2 := by rw [hW0]; simp only [heap_len]
    have hb0 : Hid (Below w.heap.size w W0) := Lib.hid (by rw [hW0]; exact (((Below.refl _ _).alloc (Nat.le_refl _) _).alloc (by rw [heap_len]; omega) _))
    have h0 : Hid (W0.heap[w.heap.size]? = some (.cells cs 30)) := Lib.hid (by rw [hW0]; exact (heap_old _ _ _ (by simp only [heap_len]; omega)).trans (heap_new _ _ _ rfl))
    have h1 : Hid (W0.heap[w.heap.size + 1]? = some (.cells sigZ 30)) := Lib.hid (by rw [hW0]; exact (heap_new _ _ _ (by simp only [heap_len])))
    rw [← hW0]
    clear hW0
    refine wp_region_any (by kernel_rfl) ?_
    change wpAny _ _ _ _ _ _ _ (World.drew _)
    (refine wpAny_take (i := 1) (v := ?_) rfl (by kernel_rfl) (by kernel_rfl) (by kernel_rfl) (fun _ _ _ h => h) (Or.inl ⟨by rfl, fun w => ?_⟩) ?_; rotate_left; · (go_simp <;> with_reducible rfl); (try simp only [Act.put, List.getElem_toArray, List.getElem_cons_succ, List.getElem_cons_zero, List.setIfInBounds_toArray, List.set_cons_zero, List.set_cons_succ]))
    refine wpAny_ready (rs := [0]) (by kernel_rfl) (by simp) ?_
    refine AllReady.cons rfl (fun K hK => ?_) AllReady.nil
    refine (if_pos (by rfl)).mpr ?_
    refine op_load 30 ?_
    refine OLoadGoal.of cs rfl h0.out (by kernel_rfl) (sig_sz H.out) ?_
    refine hK _ _ ?_
    clear hK K
    refine wpAny_ready (rs := [2]) (by kernel_rfl) (by simp) ?_
    refine AllReady.cons rfl (fun K hK => ?_) AllReady.nil
    go_simp
    go_wp2_with (go_at_call 13; refine (sgWhat cs H.out k hk _).mono ?_; rintro e w2 ⟨rfl, hb⟩; rw [← HV.out])
    (refine wpAny_take (i := 3) (v := ?_) rfl (by kernel_rfl) (by kernel_rfl) (by kernel_rfl) (fun _ _ _ h => h) (Or.inl ⟨by rfl, fun w => ?_⟩) ?_; rotate_left; · (go_simp <;> with_reducible rfl); (try simp only [Act.put, List.getElem_toArray, List.getElem_cons_succ, List.getElem_cons_zero, List.setIfInBounds_toArray, List.set_cons_zero, List.set_cons_succ]))
    (refine wpAny_take (i := 4) (v := ?_) rfl (by kernel_rfl) (by kernel_rfl) (by kernel_rfl) (fun _ _ _ h => h) (Or.inl ⟨by rfl, fun w => ?_⟩) ?_; rotate_left; · (go_simp <;> with_reducible rfl); (try simp only [Act.put, List.getElem_toArray, List.getElem_cons_succ, List.getElem_cons_zero, List.setIfInBounds_toArray, List.set_cons_zero, List.set_cons_succ]))
    refine wpAny_take (i := 5) (v := undef) rfl (by kernel_rfl) (by kernel_rfl) (by kernel_rfl) (fun _ _ _ h => h) (Or.inr ⟨by rfl, rfl⟩) ?_; (try simp only [Act.put, List.getElem_toArray, List.getElem_cons_succ, List.getElem_cons_zero, List.setIfInBounds_toArray, List.set_cons_zero, List.set_cons_succ])
    refine wpAny_take (i := 6) (v := undef) rfl (by kernel_rfl) (by kernel_rfl) (by kernel_rfl) (fun _ _ _ h => h) (Or.inr ⟨by rfl, rfl⟩) ?_; (try simp only [Act.put, List.getElem_toArray, List.getElem_cons_succ, List.getElem_cons_zero, List.setIfInBounds_toArray, List.set_cons_zero, List.set_cons_succ])
    refine wpAny_take (i := 7) (v := undef) rfl (by kernel_rfl) (by kernel_rfl) (by kernel_rfl) (fun _ _ _ h => h) (Or.inr ⟨by rfl, rfl⟩) ?_; (try simp only [Act.put, List.getElem_toArray, List.getElem_cons_succ, List.getElem_cons_zero, List.setIfInBounds_toArray, List.set_cons_zero, List.set_cons_succ])
    refine wpAny_take (i := 8) (v := undef) rfl (by kernel_rfl) (by kernel_rfl) (by kernel_rfl) (fun _ _ _ h => h) (Or.inr ⟨by rfl, rfl⟩) ?_; (try simp only [Act.put, List.getElem_toArray, List.getElem_cons_succ, List.getElem_cons_zero, List.setIfInBounds_toArray, List.set_cons_zero, List.set_cons_succ])
    refine wpAny_take (i := 9) (v := undef) rfl (by kernel_rfl) (by kernel_rfl) (by kernel_rfl) (fun _ _ _ h => h) (Or.inr ⟨by rfl, rfl⟩) ?_; (try simp only [Act.put, List.getElem_toArray, List.getElem_cons_succ, List.getElem_cons_zero, List.setIfInBounds_toArray, List.set_cons_zero, List.set_cons_succ])
    refine wpAny_take (i := 10) (v := undef) rfl (by kernel_rfl) (by kernel_rfl) (by kernel_rfl) (fun _ _ _ h => h) (Or.inr ⟨by rfl, rfl⟩) ?_; (try simp only [Act.put, List.getElem_toArray, List.getElem_cons_succ, List.getElem_cons_zero, List.setIfInBounds_toArray, List.set_cons_zero, List.set_cons_succ])
    (refine wpAny_take (i := 11) (v := ?_) rfl (by kernel_rfl) (by kernel_rfl) (by kernel_rfl) (fun _ _ _ h => h) (Or.inl ⟨by rfl, fun w => ?_⟩) ?_; rotate_left; · (go_simp <;> with_reducible rfl); (try simp only [Act.put, List.getElem_toArray, List.getElem_cons_succ, List.getElem_cons_zero, List.setIfInBounds_toArray, List.set_cons_zero, List.set_cons_succ]))
    (refine wpAny_take (i := 12) (v := ?_) rfl (by kernel_rfl) (by kernel_rfl) (by kernel_rfl) (fun _ _ _ h => h) (Or.inl ⟨by rfl, fun w => ?_⟩) ?_; rotate_left; · (go_simp <;> with_reducible rfl); (try simp only [Act.put, List.getElem_toArray, List.getElem_cons_succ, List.getElem_cons_zero, List.setIfInBounds_toArray, List.set_cons_zero, List.set_cons_succ]))
    refine wpAny_done (by kernel_rfl) ?_ _
    have g0 : w2.heap[w.heap.size]? = some (.cells cs 30) := (hb.block _ (by show _ < W0.heap.size; omega)).trans h0.out
    have g1 : w2.heap[w.heap.size + 1]? = some (.cells sigZ 30) := (hb.block _ (by show _ < W0.heap.size; omega)).trans h1.out
    have hB2 : Hid (Below w.heap.size w w2) := Lib.hid (hb0.out.trans ((below_of_drew hb).mono (by omega)))
    have G0 := Lib.hid g0; have G1 := Lib.hid g1
    have l1 := cell_at g0 e1
    have l2 := free_at (o := 1) g0
    clear hb h0 h1 hb0 g0 g1
    go_upto_region 5 with fail
    go_region_with (go_at_call 26; refine (sgBit _ (by omega) (by omega) _).mono ?_; rintro e w1 ⟨rfl, hw⟩; rw [hw]; clear hw)
    all_goals
      go_wp2_with (first
        | (refine wpl_load 30 ?_; refine LoadGoal.of (cs.setIfInBounds 1 (.int .u64 (raiseW cs k))) (t := 30) (fr := (0, 0)) rfl (heap_set G0.out) (by kernel_rfl) (sig_sz HF.out) rfl ?_)
        | (refine wpl_store 30 ?_; refine StoreGoal.of (cs.setIfInBounds 1 (.int .u64 (raiseW cs k))) sigZ rfl rfl ((heap_set_ne _ _ _ _ _ (by omega)).trans G1.out) HF.out sigZ_fits sig_size ?_))
      refine bodyPost_ret (res_cell_tmp rfl (cs := cs.setIfInBounds 1 (.int .u64 (raiseW cs k))) rfl (row_same ((heap_set_ne _ _ _ _ _ (by omega)).trans G1.out)) (by kernel_rfl) (sig_sz HF.out)) rfl ?_
      exact ⟨by rw [HA.out]; rfl, below_row (Below.setCell hB2.out.drew (Nat.le_refl _) _) _ _ (by omega)⟩
  · cases c3 : (bits BinOp.and IntKind.u64 (iat cs 0) (bitN ((k : Int) + 1)) == 0)
    · have HA : Hid (raiseA cs k = cs.setIfInBounds 1 (.int .u64 (raiseW cs k))) := Lib.hid (by rw [raiseA, quietB, ← HV.out, c1, c3]; rfl)
      have HF : Hid (Fits sigK (cs.setIfInBounds 1 (.int .u64 (raiseW cs k))).toList) := Lib.hid (by rw [← HA.out]; exact raise_fits H.out k)
      go_enter Tryd.func12, Tryd.ntmps12
      go_upto_region 3 with (first
          | (go_at_call 27; refine (sgIs _ (by omega) (by omega) _).mono ?_; rintro e w1 ⟨rfl, hw⟩; rw [hw]; clear hw))
      obtain ⟨W0, hW0⟩ : ∃ W0, W0 = (w.alloc (.cells cs 30)).alloc (.cells sigZ 30) := ⟨_, rfl⟩
      have hz0 : W0.heap.size = w.heap.size + 2 := by rw [hW0]; simp only [heap_len]
      have hb0 : Hid (Below w.heap.size w W0) := Lib.hid (by rw [hW0]; exact (((Below.refl _ _).alloc (Nat.le_refl _) _).alloc (by rw [heap_len]; omega) _))
      have h0 : Hid (W0.heap[w.heap.size]? = some (.cells cs 30)) := Lib.hid (by rw [hW0]; exact (heap_old _ _ _ (by simp only [heap_len]; omega)).trans (heap_new _ _ _ rfl))
      have h1 : Hid (W0.heap[w.heap.size + 1]? = some (.cells sigZ 30)) := Lib.hid (by rw [hW0]; exact (heap_new _ _ _ (by simp only [heap_len])))
      rw [← hW0]
      clear hW0
      refine wp_region_any (by kernel_rfl) ?_
      change wpAny _ _ _ _ _ _ _ (World.drew _)
      (refine wpAny_take (i := 1) (v := ?_) rfl (by kernel_rfl) (by kernel_rfl) (by kernel_rfl) (fun _ _ _ h => h) (Or.inl ⟨by rfl, fun w => ?_⟩) ?_; rotate_left; · (go_simp <;> with_reducible rfl); (try simp only [Act.put, List.getElem_toArray, List.getElem_cons_succ, List.getElem_cons_zero, List.setIfInBounds_toArray, List.set_cons_zero, List.set_cons_succ]))
      refine wpAny_ready (rs := [0]) (by kernel_rfl) (by simp) ?_
      refine AllReady.cons rfl (fun K hK => ?_) AllReady.nil
      refine (if_pos (by rfl)).mpr ?_
      refine op_load 30 ?_
      refine OLoadGoal.of cs rfl h0.out (by kernel_rfl) (sig_sz H.out) ?_
      refine hK _ _ ?_
      clear hK K
      refine wpAny_ready (rs := [2]) (by kernel_rfl) (by simp) ?_
      refine AllReady.cons rfl (fun K hK => ?_) AllReady.nil
      go_simp
      go_wp2_with (go_at_call 13; refine (sgWhat cs H.out k hk _).mono ?_; rintro e w2 ⟨rfl, hb⟩; rw [← HV.out])
      (refine wpAny_take (i := 3) (v := ?_) rfl (by kernel_rfl) (by kernel_rfl) (by kernel_rfl) (fun _ _ _ h => h) (Or.inl ⟨by rfl, fun w => ?_⟩) ?_; rotate_left; · (go_simp <;> with_reducible rfl); (try simp only [Act.put, List.getElem_toArray, List.getElem_cons_succ, List.getElem_cons_zero, List.setIfInBounds_toArray, List.set_cons_zero, List.set_cons_succ]))
      (refine wpAny_take (i := 4) (v := ?_) rfl (by kernel_rfl) (by kernel_rfl) (by kernel_rfl) (fun _ _ _ h => h) (Or.inl ⟨by rfl, fun w => ?_⟩) ?_; rotate_left; · (go_simp <;> with_reducible rfl); (try simp only [Act.put, List.getElem_toArray, List.getElem_cons_succ, List.getElem_cons_zero, List.setIfInBounds_toArray, List.set_cons_zero, List.set_cons_succ]))
      have g0 : w2.heap[w.heap.size]? = some (.cells cs 30) := (hb.block _ (by show _ < W0.heap.size; omega)).trans h0.out
      have g1 : w2.heap[w.heap.size + 1]? = some (.cells sigZ 30) := (hb.block _ (by show _ < W0.heap.size; omega)).trans h1.out
      have hB2 : Hid (Below w.heap.size w w2) := Lib.hid (hb0.out.trans ((below_of_drew hb).mono (by omega)))
      have G0 := Lib.hid g0; have G1 := Lib.hid g1
      have l0 := cell_at g0 e0
      have l1 := cell_at g0 e1
      have l2 := free_at (o := 1) g0
      clear hb h0 h1 hb0 g0 g1
      (refine wpAny_take (i := 5) (v := ?_) rfl (by kernel_rfl) (by kernel_rfl) (by kernel_rfl) (fun _ _ _ h => h) (Or.inl ⟨by rfl, fun w => ?_⟩) ?_; rotate_left; · (go_simp <;> with_reducible rfl); (try simp only [Act.put, List.getElem_toArray, List.getElem_cons_succ, List.getElem_cons_zero, List.setIfInBounds_toArray, List.set_cons_zero, List.set_cons_succ]))
      (refine wpAny_take (i := 7) (v := ?_) rfl (by kernel_rfl) (by kernel_rfl) (by kernel_rfl) (fun _ _ _ h => h) (Or.inl ⟨by rfl, fun w => ?_⟩) ?_; rotate_left; · (go_simp <;> with_reducible rfl); (try simp only [Act.put, List.getElem_toArray, List.getElem_cons_succ, List.getElem_cons_zero, List.setIfInBounds_toArray, List.set_cons_zero, List.set_cons_succ]))
      refine wpAny_ready (rs := [6, 8]) (by kernel_rfl) (by simp) ?_
      refine AllReady.cons rfl (fun K hK => ?_) (AllReady.cons rfl (fun K hK => ?_) AllReady.nil)
      · go_simp
        refine hK _ _ ?_
        clear hK K
        refine wpAny_ready (rs := [8]) (by kernel_rfl) (by simp) ?_
        refine AllReady.cons rfl (fun K hK => ?_) AllReady.nil
        go_simp
        go_wp2_with (go_at_call 26; refine (sgBit _ (by omega) (by omega) _).mono ?_; rintro e w1 ⟨rfl, hw⟩; rw [hw]; clear hw)
        (refine wpAny_take (i := 9) (v := ?_) rfl (by kernel_rfl) (by kernel_rfl) (by kernel_rfl) (fun _ _ _ h => h) (Or.inl ⟨by rfl, fun w => ?_⟩) ?_; rotate_left; · (go_simp <;> with_reducible rfl); (try simp only [Act.put, List.getElem_toArray, List.getElem_cons_succ, List.getElem_cons_zero, List.setIfInBounds_toArray, List.set_cons_zero, List.set_cons_succ]))
        (refine wpAny_take (i := 10) (v := ?_) rfl (by kernel_rfl) (by kernel_rfl) (by kernel_rfl) (fun _ _ _ h => h) (Or.inl ⟨by rfl, fun w => ?_⟩) ?_; rotate_left; · (go_simp <;> with_reducible rfl); (try simp only [Act.put, List.getElem_toArray, List.getElem_cons_succ, List.getElem_cons_zero, List.setIfInBounds_toArray, List.set_cons_zero, List.set_cons_succ]))
        (refine wpAny_take (i := 11) (v := ?_) rfl (by kernel_rfl) (by kernel_rfl) (by kernel_rfl) (fun _ _ _ h => h) (Or.inl ⟨by rfl, fun w => ?_⟩) ?_; rotate_left; · (go_simp <;> with_reducible rfl); (try simp only [Act.put, List.getElem_toArray, List.getElem_cons_succ, List.getElem_cons_zero, List.setIfInBounds_toArray, List.set_cons_zero, List.set_cons_succ]))
        (refine wpAny_take (i := 12) (v := ?_) rfl (by kernel_rfl) (by kernel_rfl) (by kernel_rfl) (fun _ _ _ h => h) (Or.inl ⟨by rfl, fun w => ?_⟩) ?_; rotate_left; · (go_simp <;> with_reducible rfl); (try simp only [Act.put, List.getElem_toArray, List.getElem_cons_succ, List.getElem_cons_zero, List.setIfInBounds_toArray, List.set_cons_zero, List.set_cons_succ]))
        refine wpAny_done (by kernel_rfl) ?_ _
        go_upto_region 5 with fail
        go_region_with (go_at_call 26; refine (sgBit _ (by omega) (by omega) _).mono ?_; rintro e w1 ⟨rfl, hw⟩; rw [hw]; clear hw)
        all_goals
          go_wp2_with (first
            | (refine wpl_load 30 ?_; refine LoadGoal.of (cs.setIfInBounds 1 (.int .u64 (raiseW cs k))) (t := 30) (fr := (0, 0)) rfl (heap_set G0.out) (by kernel_rfl) (sig_sz HF.out) rfl ?_)
            | (refine wpl_store 30 ?_; refine StoreGoal.of (cs.setIfInBounds 1 (.int .u64 (raiseW cs k))) sigZ rfl rfl ((heap_set_ne _ _ _ _ _ (by omega)).trans G1.out) HF.out sigZ_fits sig_size ?_))
          refine bodyPost_ret (res_cell_tmp rfl (cs := cs.setIfInBounds 1 (.int .u64 (raiseW cs k))) rfl (row_same ((heap_set_ne _ _ _ _ _ (by omega)).trans G1.out)) (by kernel_rfl) (sig_sz HF.out)) rfl ?_
          exact ⟨by rw [HA.out]; rfl, below_row (Below.setCell hB2.out.drew (Nat.le_refl _) _) _ _ (by omega)⟩
      · go_simp
        go_wp2_with (go_at_call 26; refine (sgBit _ (by omega) (by omega) _).mono ?_; rintro e w1 ⟨rfl, hw⟩; rw [hw]; clear hw)
        refine wpAny_ready (rs := [6]) (by kernel_rfl) (by simp) ?_
        refine AllReady.cons rfl (fun K hK => ?_) AllReady.nil
        go_simp
        refine hK _ _ ?_
        clear hK K
        (refine wpAny_take (i := 9) (v := ?_) rfl (by kernel_rfl) (by kernel_rfl) (by kernel_rfl) (fun _ _ _ h => h) (Or.inl ⟨by rfl, fun w => ?_⟩) ?_; rotate_left; · (go_simp <;> with_reducible rfl); (try simp only [Act.put, List.getElem_toArray, List.getElem_cons_succ, List.getElem_cons_zero, List.setIfInBounds_toArray, List.set_cons_zero, List.set_cons_succ]))
        (refine wpAny_take (i := 10) (v := ?_) rfl (by kernel_rfl) (by kernel_rfl) (by kernel_rfl) (fun _ _ _ h => h) (Or.inl ⟨by rfl, fun w => ?_⟩) ?_; rotate_left; · (go_simp <;> with_reducible rfl); (try simp only [Act.put, List.getElem_toArray, List.getElem_cons_succ, List.getElem_cons_zero, List.setIfInBounds_toArray, List.set_cons_zero, List.set_cons_succ]))
        (refine wpAny_take (i := 11) (v := ?_) rfl (by kernel_rfl) (by kernel_rfl) (by kernel_rfl) (fun _ _ _ h => h) (Or.inl ⟨by rfl, fun w => ?_⟩) ?_; rotate_left; · (go_simp <;> with_reducible rfl); (try simp only [Act.put, List.getElem_toArray, List.getElem_cons_succ, List.getElem_cons_zero, List.setIfInBounds_toArray, List.set_cons_zero, List.set_cons_succ]))
        (refine wpAny_take (i := 12) (v := ?_) rfl (by kernel_rfl) (by kernel_rfl) (by kernel_rfl) (fun _ _ _ h => h) (Or.inl ⟨by rfl, fun w => ?_⟩) ?_; rotate_left; · (go_simp <;> with_reducible rfl); (try simp only [Act.put, List.getElem_toArray, List.getElem_cons_succ, List.getElem_cons_zero, List.setIfInBounds_toArray, List.set_cons_zero, List.set_cons_succ]))
        refine wpAny_done (by kernel_rfl) ?_ _
        go_upto_region 5 with fail
        go_region_with (go_at_call 26; refine (sgBit _ (by omega) (by omega) _).mono ?_; rintro e w1 ⟨rfl, hw⟩; rw [hw]; clear hw)
        all_goals
          go_wp2_with (first
            | (refine wpl_load 30 ?_; refine LoadGoal.of (cs.setIfInBounds 1 (.int .u64 (raiseW cs k))) (t := 30) (fr := (0, 0)) rfl (heap_set G0.out) (by kernel_rfl) (sig_sz HF.out) rfl ?_)
            | (refine wpl_store 30 ?_; refine StoreGoal.of (cs.setIfInBounds 1 (.int .u64 (raiseW cs k))) sigZ rfl rfl ((heap_set_ne _ _ _ _ _ (by omega)).trans G1.out) HF.out sigZ_fits sig_size ?_))
          refine bodyPost_ret (res_cell_tmp rfl (cs := cs.setIfInBounds 1 (.int .u64 (raiseW cs k))) rfl (row_same ((heap_set_ne _ _ _ _ _ (by omega)).trans G1.out)) (by kernel_rfl) (sig_sz HF.out)) rfl ?_
          exact ⟨by rw [HA.out]; rfl, below_row (Below.setCell hB2.out.drew (Nat.le_refl _) _) _ _ (by omega)⟩
    · have HA : Hid (raiseA cs k = cs) := Lib.hid (by rw [raiseA, quietB, ← HV.out, c1, c3]; rfl)
      go_enter Tryd.func12, Tryd.ntmps12
      go_upto_region 3 with (first
          | (go_at_call 27; refine (sgIs _ (by omega) (by omega) _).mono ?_; rintro e w1 ⟨rfl, hw⟩; rw [hw]; clear hw))
      obtain ⟨W0, hW0⟩ : ∃ W0, W0 = (w.alloc (.cells cs 30)).alloc (.cells sigZ 30) := ⟨_, rfl⟩
      have hz0 : W0.heap.size = w.heap.size + 2 := by rw [hW0]; simp only [heap_len]
      have hb0 : Hid (Below w.heap.size w W0) := Lib.hid (by rw [hW0]; exact (((Below.refl _ _).alloc (Nat.le_refl _) _).alloc (by rw [heap_len]; omega) _))
      have h0 : Hid (W0.heap[w.heap.size]? = some (.cells cs 30)) := Lib.hid (by rw [hW0]; exact (heap_old _ _ _ (by simp only [heap_len]; omega)).trans (heap_new _ _ _ rfl))
      have h1 : Hid (W0.heap[w.heap.size + 1]? = some (.cells sigZ 30)) := Lib.hid (by rw [hW0]; exact (heap_new _ _ _ (by simp only [heap_len])))
      rw [← hW0]
      clear hW0
      refine wp_region_any (by kernel_rfl) ?_
      change wpAny _ _ _ _ _ _ _ (World.drew _)
      (refine wpAny_take (i := 1) (v := ?_) rfl (by kernel_rfl) (by kernel_rfl) (by kernel_rfl) (fun _ _ _ h => h) (Or.inl ⟨by rfl, fun w => ?_⟩) ?_; rotate_left; · (go_simp <;> with_reducible rfl); (try simp only [Act.put, List.getElem_toArray, List.getElem_cons_succ, List.getElem_cons_zero, List.setIfInBounds_toArray, List.set_cons_zero, List.set_cons_succ]))
      refine wpAny_ready (rs := [0]) (by kernel_rfl) (by simp) ?_
      refine AllReady.cons rfl (fun K hK => ?_) AllReady.nil
      refine (if_pos (by rfl)).mpr ?_
      refine op_load 30 ?_
      refine OLoadGoal.of cs rfl h0.out (by kernel_rfl) (sig_sz H.out) ?_
      refine hK _ _ ?_
      clear hK K
      refine wpAny_ready (rs := [2]) (by kernel_rfl) (by simp) ?_
      refine AllReady.cons rfl (fun K hK => ?_) AllReady.nil
      go_simp
      go_wp2_with (go_at_call 13; refine (sgWhat cs H.out k hk _).mono ?_; rintro e w2 ⟨rfl, hb⟩; rw [← HV.out])
      (refine wpAny_take (i := 3) (v := ?_) rfl (by kernel_rfl) (by kernel_rfl) (by kernel_rfl) (fun _ _ _ h => h) (Or.inl ⟨by rfl, fun w => ?_⟩) ?_; rotate_left; · (go_simp <;> with_reducible rfl); (try simp only [Act.put, List.getElem_toArray, List.getElem_cons_succ, List.getElem_cons_zero, List.setIfInBounds_toArray, List.set_cons_zero, List.set_cons_succ]))
      (refine wpAny_take (i := 4) (v := ?_) rfl (by kernel_rfl) (by kernel_rfl) (by kernel_rfl) (fun _ _ _ h => h) (Or.inl ⟨by rfl, fun w => ?_⟩) ?_; rotate_left; · (go_simp <;> with_reducible rfl); (try simp only [Act.put, List.getElem_toArray, List.getElem_cons_succ, List.getElem_cons_zero, List.setIfInBounds_toArray, List.set_cons_zero, List.set_cons_succ]))
      have g0 : w2.heap[w.heap.size]? = some (.cells cs 30) := (hb.block _ (by show _ < W0.heap.size; omega)).trans h0.out
      have g1 : w2.heap[w.heap.size + 1]? = some (.cells sigZ 30) := (hb.block _ (by show _ < W0.heap.size; omega)).trans h1.out
      have hB2 : Hid (Below w.heap.size w w2) := Lib.hid (hb0.out.trans ((below_of_drew hb).mono (by omega)))
      have G0 := Lib.hid g0; have G1 := Lib.hid g1
      have l0 := cell_at g0 e0
      have l1 := cell_at g0 e1
      have l2 := free_at (o := 1) g0
      clear hb h0 h1 hb0 g0 g1
      (refine wpAny_take (i := 5) (v := ?_) rfl (by kernel_rfl) (by kernel_rfl) (by kernel_rfl) (fun _ _ _ h => h) (Or.inl ⟨by rfl, fun w => ?_⟩) ?_; rotate_left; · (go_simp <;> with_reducible rfl); (try simp only [Act.put, List.getElem_toArray, List.getElem_cons_succ, List.getElem_cons_zero, List.setIfInBounds_toArray, List.set_cons_zero, List.set_cons_succ]))
      (refine wpAny_take (i := 7) (v := ?_) rfl (by kernel_rfl) (by kernel_rfl) (by kernel_rfl) (fun _ _ _ h => h) (Or.inl ⟨by rfl, fun w => ?_⟩) ?_; rotate_left; · (go_simp <;> with_reducible rfl); (try simp only [Act.put, List.getElem_toArray, List.getElem_cons_succ, List.getElem_cons_zero, List.setIfInBounds_toArray, List.set_cons_zero, List.set_cons_succ]))
      refine wpAny_ready (rs := [6, 8]) (by kernel_rfl) (by simp) ?_
      refine AllReady.cons rfl (fun K hK => ?_) (AllReady.cons rfl (fun K hK => ?_) AllReady.nil)
      · go_simp
        refine hK _ _ ?_
        clear hK K
        refine wpAny_ready (rs := [8]) (by kernel_rfl) (by simp) ?_
        refine AllReady.cons rfl (fun K hK => ?_) AllReady.nil
        go_simp
        go_wp2_with (go_at_call 26; refine (sgBit _ (by omega) (by omega) _).mono ?_; rintro e w1 ⟨rfl, hw⟩; rw [hw]; clear hw)
        (refine wpAny_take (i := 9) (v := ?_) rfl (by kernel_rfl) (by kernel_rfl) (by kernel_rfl) (fun _ _ _ h => h) (Or.inl ⟨by rfl, fun w => ?_⟩) ?_; rotate_left; · (go_simp <;> with_reducible rfl); (try simp only [Act.put, List.getElem_toArray, List.getElem_cons_succ, List.getElem_cons_zero, List.setIfInBounds_toArray, List.set_cons_zero, List.set_cons_succ]))
        (refine wpAny_take (i := 10) (v := ?_) rfl (by kernel_rfl) (by kernel_rfl) (by kernel_rfl) (fun _ _ _ h => h) (Or.inl ⟨by rfl, fun w => ?_⟩) ?_; rotate_left; · (go_simp <;> with_reducible rfl); (try simp only [Act.put, List.getElem_toArray, List.getElem_cons_succ, List.getElem_cons_zero, List.setIfInBounds_toArray, List.set_cons_zero, List.set_cons_succ]))
        (refine wpAny_take (i := 11) (v := ?_) rfl (by kernel_rfl) (by kernel_rfl) (by kernel_rfl) (fun _ _ _ h => h) (Or.inl ⟨by rfl, fun w => ?_⟩) ?_; rotate_left; · (go_simp <;> with_reducible rfl); (try simp only [Act.put, List.getElem_toArray, List.getElem_cons_succ, List.getElem_cons_zero, List.setIfInBounds_toArray, List.set_cons_zero, List.set_cons_succ]))
        (refine wpAny_take (i := 12) (v := ?_) rfl (by kernel_rfl) (by kernel_rfl) (by kernel_rfl) (fun _ _ _ h => h) (Or.inl ⟨by rfl, fun w => ?_⟩) ?_; rotate_left; · (go_simp <;> with_reducible rfl); (try simp only [Act.put, List.getElem_toArray, List.getElem_cons_succ, List.getElem_cons_zero, List.setIfInBounds_toArray, List.set_cons_zero, List.set_cons_succ]))
        refine wpAny_done (by kernel_rfl) ?_ _
        go_wp2_with (first
          | (refine wpl_load 30 ?_; refine LoadGoal.of cs (t := 30) (fr := (0, 0)) rfl G0.out (by kernel_rfl) (sig_sz H.out) rfl ?_)
          | (refine wpl_store 30 ?_; refine StoreGoal.of cs sigZ rfl rfl G1.out H.out sigZ_fits sig_size ?_))
        refine bodyPost_ret (res_cell_tmp rfl (cs := cs) rfl (row_same G1.out) (by kernel_rfl) (sig_sz H.out)) rfl ?_
        exact ⟨by rw [HA.out]; rfl, below_row hB2.out _ _ (by omega)⟩
      · go_simp
        go_wp2_with (go_at_call 26; refine (sgBit _ (by omega) (by omega) _).mono ?_; rintro e w1 ⟨rfl, hw⟩; rw [hw]; clear hw)
        refine wpAny_ready (rs := [6]) (by kernel_rfl) (by simp) ?_
        refine AllReady.cons rfl (fun K hK => ?_) AllReady.nil
        go_simp
        refine hK _ _ ?_
        clear hK K
        (refine wpAny_take (i := 9) (v := ?_) rfl (by kernel_rfl) (by kernel_rfl) (by kernel_rfl) (fun _ _ _ h => h) (Or.inl ⟨by rfl, fun w => ?_⟩) ?_; rotate_left; · (go_simp <;> with_reducible rfl); (try simp only [Act.put, List.getElem_toArray, List.getElem_cons_succ, List.getElem_cons_zero, List.setIfInBounds_toArray, List.set_cons_zero, List.set_cons_succ]))
        (refine wpAny_take (i := 10) (v := ?_) rfl (by kernel_rfl) (by kernel_rfl) (by kernel_rfl) (fun _ _ _ h => h) (Or.inl ⟨by rfl, fun w => ?_⟩) ?_; rotate_left; · (go_simp <;> with_reducible rfl); (try simp only [Act.put, List.getElem_toArray, List.getElem_cons_succ, List.getElem_cons_zero, List.setIfInBounds_toArray, List.set_cons_zero, List.set_cons_succ]))
        (refine wpAny_take (i := 11) (v := ?_) rfl (by kernel_rfl) (by kernel_rfl) (by kernel_rfl) (fun _ _ _ h => h) (Or.inl ⟨by rfl, fun w => ?_⟩) ?_; rotate_left; · (go_simp <;> with_reducible rfl); (try simp only [Act.put, List.getElem_toArray, List.getElem_cons_succ, List.getElem_cons_zero, List.setIfInBounds_toArray, List.set_cons_zero, List.set_cons_succ]))
        (refine wpAny_take (i := 12) (v := ?_) rfl (by kernel_rfl) (by kernel_rfl) (by kernel_rfl) (fun _ _ _ h => h) (Or.inl ⟨by rfl, fun w => ?_⟩) ?_; rotate_left; · (go_simp <;> with_reducible rfl); (try simp only [Act.put, List.getElem_toArray, List.getElem_cons_succ, List.getElem_cons_zero, List.setIfInBounds_toArray, List.set_cons_zero, List.set_cons_succ]))
        refine wpAny_done (by kernel_rfl) ?_ _
        go_wp2_with (first
          | (refine wpl_load 30 ?_; refine LoadGoal.of cs (t := 30) (fr := (0, 0)) rfl G0.out (by kernel_rfl) (sig_sz H.out) rfl ?_)
          | (refine wpl_store 30 ?_; refine StoreGoal.of cs sigZ rfl rfl G1.out H.out sigZ_fits sig_size ?_))
        refine bodyPost_ret (res_cell_tmp rfl (cs := cs) rfl (row_same G1.out) (by kernel_rfl) (sig_sz H.out)) rfl ?_
        exact ⟨by rw [HA.out]; rfl, below_row hB2.out _ _ (by omega)⟩
end Go.Proofs.YtofeamajoahjmaaDoor
