/-
  StructsSigs: signals and actions, and as bytes, are the document's.
-/
import Derived.Test.YtofeamajoahjmaaDoorFRefM25
namespace Go.Proofs.YtofeamajoahjmaaDoor
open Go Go.RowKit
set_option linter.unusedVariables false
set_option linter.unusedSimpArgs false

set_option maxHeartbeats 1000000 in
set_option maxRecDepth 100000 in
theorem rPutAction25 (x y v : Nat) (hx : x < 4294967296) (hy : y < 4294967296) (hv : v < 18446744073709551616) (w : World) :
    Calls Tryd.prog 23 #[.agg (actC x y v)] w fun e w' => e = .returned (.string (mkB (actB x y v))) ∧ Below w.heap.size w w' := by
  have CX : Hid (∀ W, Calls Tryd.prog 35 #[.int .u64 (x : Nat), .int .i64 4] W fun e w' => e = .returned (.string (mkB (beB x 4))) ∧ Below W.heap.size W w') := Lib.hid (fun W => by have := rbe25_any x (by omega) 4 W; rwa [rb_is] at this)
  have CY : Hid (∀ W, Calls Tryd.prog 35 #[.int .u64 (y : Nat), .int .i64 4] W fun e w' => e = .returned (.string (mkB (beB y 4))) ∧ Below W.heap.size W w') := Lib.hid (fun W => by have := rbe25_any y (by omega) 4 W; rwa [rb_is] at this)
  have CV := Lib.hid (rPutMask25 v hv)
  have HR : Hid (beB x 4 ++ beB y 4 ++ maskB v = actB x y v) := Lib.hid (by rw [bk_act, List.append_assoc])
  have hx2 : (x : Int) ≤ 4294967295 := by omega
  have hy2 : (y : Int) ≤ 4294967295 := by omega
  have hA := mkB_append
  have hZ := mkB_size
  have hB4 := bk_len
  have hM := mask_len
  have he : (mkB []).toList = [] := bytes_toList []
  have c0 : ∀ s : Grown (w.alloc (.cells (actC x y v) 25)), s.w.cell? ⟨w.heap.size, 0, none⟩ = some (.int .u32 x) := Grown.cell (heap_new _ _ _ rfl) rfl
  have c1 : ∀ s : Grown (w.alloc (.cells (actC x y v) 25)), s.w.cell? ⟨w.heap.size, 1, none⟩ = some (.int .u32 y) := Grown.cell (heap_new _ _ _ rfl) rfl
  have c2 : ∀ s : Grown (w.alloc (.cells (actC x y v) 25)), s.w.cell? ⟨w.heap.size, 2, none⟩ = some (.int .u64 v) := Grown.cell (heap_new _ _ _ rfl) rfl
  clear hx hy hv
  go_enter Tryd.func23, Tryd.ntmps23
  go_upto_region 1 with fail
  (refine wp_region_grown (by kernel_rfl) (by kernel_rfl) ?_; (repeat (go_big_quiet_step (first | (go_at_call_of 35 (Value.int .u64 (x : Nat)); exact Calls.grown (CX.out _)) | (go_at_call_of 35 (Value.int .u64 (y : Nat)); exact Calls.grown (CY.out _)) | (go_at_call 21; exact Calls.grown (CV.out _))))); refine wpQuiet_nil ?_; intro _ hw'; obtain ⟨sG, hw''⟩ := hw'; subst hw'')
  go_wp2
  go_ret
  refine ⟨?_, ((Below.refl _ w).alloc (Nat.le_refl _) _).trans (sG.below.mono (by rw [heap_len]; omega))⟩
  rw [← HR.out]
  rfl

set_option maxHeartbeats 3000000 in
set_option maxRecDepth 100000 in
theorem sigs_walk (k l : List UInt8) (hk : k.length ≤ 140737488351232) (hl : l.length ≤ 140737488351232) (m : Nat) (hm : m < 18446744073709551616) (x y v : Nat) (hx : x < 4294967296) (hy : y < 4294967296) (hv : v < 18446744073709551616) (w : World) :
    Calls Tryd.prog 6 #[.string (mkB k), .string (mkB l), .int .u64 m, .agg (actC x y v)] w fun e w' => e = .returned (.bool true) ∧ Below w.heap.size w w' := by
  have hsk := mkB_size k
  have hsl := mkB_size l
  by_cases big : 1000 < k.length ∨ 1000 < l.length
  · have hor : decide (1000 < (k.length : Int)) = true ∨ (decide (1000 < (k.length : Int)) = false ∧ decide (1000 < (l.length : Int)) = true) := by
      by_cases h : 1000 < k.length
      · exact .inl (decide_eq_true (by omega))
      · exact .inr ⟨decide_eq_false (by omega), decide_eq_true (by omega)⟩
    clear big
    rcases hor with h1 | ⟨h1, h2⟩
    all_goals
      go_enter Tryd.func6, Tryd.ntmps6
      go_wp2_with (go_at_call 15; refine (awake25_any _).mono ?_; rintro e w9 ⟨rfl, hb9⟩)
      go_ret
      exact ⟨rfl, ((Below.refl _ w).alloc (Nat.le_refl _) _).trans (hb9.mono (by rw [heap_len]; omega))⟩
  · have h1 : decide (1000 < (k.length : Int)) = false := decide_eq_false (by omega)
    have h2 : decide (1000 < (l.length : Int)) = false := decide_eq_false (by omega)
    have HK := Lib.hid hk; have HL := Lib.hid hl
    have F0 := Lib.hid (actC_fits 0 0 0 (by omega) (by omega) (by omega))
    have CP1 := Lib.hid (putMask_any m hm)
    have CP2 := Lib.hid (rPutMask25 m hm)
    have CP3 := Lib.hid (sPutAction x y v hx hy hv)
    have CP4 := Lib.hid (rPutAction25 x y v hx hy hv)
    obtain ⟨A, hA⟩ : ∃ A, A = actA l := ⟨_, rfl⟩
    have HA := Lib.hid hA
    have FA : Hid (Fits actK A.toList) := Lib.hid (by rw [hA]; exact actA_fits l)
    have HAS : Hid ((Tryd.prog.info? 25).map (·.size) = some A.size) := Lib.hid (by rw [hA]; exact actA_size l)
    have hgt : Tryd.prog.eqGuardType Tryd.prog.depth 25 = false := by kernel_rfl
    have q1 : ∀ W, (Op.equalIn 10000 25 (.agg A) (.agg A)).run Tryd.prog W = .ok true W := fun W => by
      rw [eq_flat' act_flat (by kernel_rfl) (by omega) FA.out FA.out W, (cellsEq_iff FA.out FA.out).2 rfl]
    have z25 : ∀ W, (zeroValue 25).run Tryd.prog W = .ok (.agg (actC 0 0 0)) W := (zero_of_info (n := 3) (by kernel_rfl)).1
    obtain ⟨u, hu⟩ : ∃ u, u = maskV k := ⟨_, rfl⟩
    obtain ⟨ok, hok⟩ : ∃ ok, ok = maskOk k := ⟨_, rfl⟩
    obtain ⟨oa, hoa⟩ : ∃ oa, oa = actOk l := ⟨_, rfl⟩
    have HU := Lib.hid hu; have HOK := Lib.hid hok; have HOA := Lib.hid hoa
    clear big hk hl hm hx hy hv hA hu hok hoa
    go_enter Tryd.func6, Tryd.ntmps6
    go_upto_region 5 with (first
      | (go_at_call 16; refine (sMask k HK.out _).mono ?_; rintro e w1 ⟨rfl, hb1⟩; rw [← HU.out, ← HOK.out])
      | (go_at_call 17; refine (rMask25 k HK.out _).mono ?_; rintro e w2 ⟨rfl, hb2⟩; rw [← HU.out, ← HOK.out]))
    have G2 : Hid (w2.heap[w.heap.size]? = some (.cells (actC x y v) 25)) := Lib.hid ((hb2.block _ (Nat.lt_of_lt_of_le (by rw [heap_len]; omega) hb1.size)).trans ((hb1.block _ (by rw [heap_len]; omega)).trans (heap_new _ _ _ rfl)))
    have HB2 : Hid (Below w.heap.size w w2) := Lib.hid (below_then (((Below.refl _ w).alloc (Nat.le_refl _) _).trans (hb1.mono (by rw [heap_len]; omega))) hb2)
    clear hb1 hb2
    go_upto_region 6 with (first
      | (go_at_call 18; refine (sAction l HL.out _).mono ?_; rintro e w3 ⟨rfl, hb3⟩; rw [← HA.out, ← HOA.out])
      | (refine wpl_store 25 ?_; refine StoreGoal.of A (actC 0 0 0) rfl rfl (heap_new _ _ _ rfl) FA.out F0.out act_size' ?_))
    obtain ⟨W3, hW3⟩ : ∃ W3, W3 = (w3.alloc (.cells (actC 0 0 0) 25)).setRow w3.heap.size A := ⟨_, rfl⟩
    obtain ⟨b3, hb⟩ : ∃ b3, b3 = w3.heap.size := ⟨_, rfl⟩
    have hlt3 : w.heap.size < b3 := by rw [hb]; exact Nat.lt_of_lt_of_le (heap_lt G2.out) hb3.size
    have K1 : Hid (W3.heap[w.heap.size]? = some (.cells (actC x y v) 25)) := Lib.hid (by rw [hW3]; exact (row_ne _ _ _ _ (by omega)).trans ((heap_old _ _ _ (by omega)).trans ((hb3.block _ (heap_lt G2.out)).trans G2.out)))
    have K2 : Hid (W3.heap[b3]? = some (.cells A 25)) := Lib.hid (by rw [hW3, hb]; exact row_same (heap_new _ _ _ rfl))
    have HB3 : Hid (Below w.heap.size w W3) := Lib.hid (by rw [hW3]; exact below_row ((HB2.out.trans (hb3.mono HB2.out.size)).alloc (by omega) _) _ _ (by omega))
    rw [← hW3, ← hb]
    clear hW3 hb hb3 G2 HB2
    go_upto_region 7 with (first
      | (go_at_call 19; refine (rAction25 l HL.out _).mono ?_; rintro e w4 ⟨rfl, hb4⟩; rw [← HA.out, ← HOA.out])
      | (refine wpl_store 25 ?_; refine StoreGoal.of A (actC 0 0 0) rfl rfl (heap_new _ _ _ rfl) FA.out F0.out act_size' ?_))
    obtain ⟨W4, hW4⟩ : ∃ W4, W4 = (w4.alloc (.cells (actC 0 0 0) 25)).setRow w4.heap.size A := ⟨_, rfl⟩
    obtain ⟨b4, hb⟩ : ∃ b4, b4 = w4.heap.size := ⟨_, rfl⟩
    have hlt4 : b3 < b4 := by rw [hb]; exact Nat.lt_of_lt_of_le (heap_lt K2.out) hb4.size
    have L1 : Hid (W4.heap[w.heap.size]? = some (.cells (actC x y v) 25)) := Lib.hid (by rw [hW4]; exact (row_ne _ _ _ _ (by omega)).trans ((heap_old _ _ _ (by omega)).trans ((hb4.block _ (heap_lt K1.out)).trans K1.out)))
    have L2 : Hid (W4.heap[b3]? = some (.cells A 25)) := Lib.hid (by rw [hW4]; exact (row_ne _ _ _ _ (by omega)).trans ((heap_old _ _ _ (by omega)).trans ((hb4.block _ (heap_lt K2.out)).trans K2.out)))
    have L3 : Hid (W4.heap[b4]? = some (.cells A 25)) := Lib.hid (by rw [hW4, hb]; exact row_same (heap_new _ _ _ rfl))
    have HB4 : Hid (Below w.heap.size w W4) := Lib.hid (by rw [hW4]; exact below_row ((HB3.out.trans (hb4.mono HB3.out.size)).alloc (by omega) _) _ _ (by omega))
    rw [← hW4, ← hb]
    clear hW4 hb hb4 K1 K2 HB3
    have HSA : Hid (∀ W : World, True) := Lib.hid (fun _ => trivial)
    cases okc : ok
    all_goals
      cases oac : oa
      all_goals
        refine wp_region_grown (by kernel_rfl) (by kernel_rfl) ?_
        (repeat (first
          | go_big_quiet_step (first
            | (go_at_call 20; exact Calls.grown (CP1.out _))
            | (go_at_call 21; exact Calls.grown (CP2.out _))
            | (go_at_call 22; exact Calls.grown (CP3.out _))
            | (go_at_call 23; exact Calls.grown (CP4.out _))
            | (go_at_call 15; exact Calls.grown (awake25_any _)))
          | (go_big_quiet_want; first
            | (refine quiet_load_row 25 (.tmp 13) A rfl rfl L2.out act_agg HAS.out ?_; go_big_quiet_on; (try simp only [Act.put, List.getElem_toArray, List.getElem_cons_succ, List.getElem_cons_zero, List.setIfInBounds_toArray, List.set_cons_zero, List.set_cons_succ]))
            | (refine quiet_load_row 25 (.tmp 15) A rfl rfl L3.out act_agg HAS.out ?_; go_big_quiet_on; (try simp only [Act.put, List.getElem_toArray, List.getElem_cons_succ, List.getElem_cons_zero, List.setIfInBounds_toArray, List.set_cons_zero, List.set_cons_succ]))
            | (refine quiet_load_row 25 (.tmp 7) (actC x y v) rfl rfl L1.out act_agg act_size ?_; go_big_quiet_on; (try simp only [Act.put, List.getElem_toArray, List.getElem_cons_succ, List.getElem_cons_zero, List.setIfInBounds_toArray, List.set_cons_zero, List.set_cons_succ])))))
        refine wpQuiet_nil ?_
        intro _ hw'
        obtain ⟨sG, hw''⟩ := hw'
        subst hw''
        go_wp2
        go_ret
        exact ⟨rfl, HB4.out.trans (sG.below.mono HB4.out.size)⟩
end Go.Proofs.YtofeamajoahjmaaDoor
