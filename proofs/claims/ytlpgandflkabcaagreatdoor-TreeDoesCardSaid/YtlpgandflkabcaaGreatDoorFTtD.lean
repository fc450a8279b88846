/-
  tree.Remove, whatever the path.
-/
import Derived.Test.YtlpgandflkabcaaGreatDoorFTtB
import Derived.Test.YtlpgandflkabcaaGreatDoorFTtC
namespace Go.Proofs.YtlpgandflkabcaaGreatDoor
open Go Go.RowKit Go.Shelf
set_option linter.unusedVariables false
set_option linter.unusedSimpArgs false

def filledN (ns : List NodeD) (p : List UInt8) : Bool := ns.any fun x => belowQ x.path p
def removeE (ns : List NodeD) (p : List UInt8) (dir : Bool) : Int :=
  if findE ns p = 0 then (if (foundN ns p).dir = true ∧ dir = false then 21 else if (foundN ns p).dir = false ∧ dir = true then 20 else if p = [47] then 22 else if filledN ns p = true then 39 else 0) else findE ns p
def removeL (ns : List NodeD) (p : List UInt8) (dir : Bool) : List NodeD := if removeE ns p dir = 0 then dropN ns p else ns
set_option maxRecDepth 100000 in
set_option maxHeartbeats 16000000 in
theorem remove_any (ns : List NodeD) (hr : RiseS ns) (hlen : ns.length ≤ 1000) (hne : 0 < ns.length) (p : List UInt8) (hpl : p.length ≤ 1000000) (dir : Bool) (v : Value) (nx : Int) (W : World) (hN : NodesV W v ns) :
    Calls Tryz.prog 12 #[.agg (keepV v nx), .string (mkB p), .bool dir] W fun e w' => ∃ v', e = .returned (.tuple #[.agg (keepV v' nx), .int .i64 (removeE ns p dir)]) ∧ NodesV w' v' (removeL ns p dir) ∧ Below W.heap.size W w' := by
  obtain ⟨q, c, rfl, hN0⟩ := hN
  have hN : NodesV W (.slice q ns.length c) ns := ⟨q, c, rfl, hN0⟩
  clear hN0
  have HN := Lib.hid hN
  have HFI : Hid (∀ (kb : Nat) (W' : World), Below W.heap.size W W' → W'.heap[kb]? = some (.cells (keepV (.slice q ns.length c) nx) 54) → Calls Tryz.prog 25 #[.pointer (some ⟨kb, 0, none⟩), .string (mkB p)] W' fun e w' => e = .returned (.tuple #[.agg (nodeV (foundN ns p)), .int .i64 (findE ns p)]) ∧ Below W'.heap.size W' w') := Lib.hid (fun kb W' hb hk => find_any ns hr (by omega) p hpl kb _ _ nx W' hk (hN.below hb))
  have HFL : Hid (pathB p = true → ∀ (kb : Nat) (W' : World), Below W.heap.size W W' → W'.heap[kb]? = some (.cells (keepV (.slice q ns.length c) nx) 54) → Calls Tryz.prog 30 #[.pointer (some ⟨kb, 0, none⟩), .string (mkB p)] W' fun e w' => e = .returned (.bool (filledN ns p)) ∧ Below W'.heap.size W' w') := Lib.hid (fun hp kb W' hb hk => filled_any ns (by omega) p hp kb _ _ nx W' hk (hN.below hb))
  have HDR : Hid (∀ (kb : Nat) (W' : World), Below W.heap.size W W' → W'.heap[kb]? = some (.cells (keepV (.slice q ns.length c) nx) 54) → Calls Tryz.prog 31 #[.pointer (some ⟨kb, 0, none⟩), .string (mkB p)] W' fun e w' => e = .returned (.tuple #[]) ∧ KeptBut kb W' w' ∧ ∃ v', w'.heap[kb]? = some (.cells (keepV v' nx) 54) ∧ w'.ownsRow W'.heap.size 28 4 v' (dropN ns p).length (nodeVs (dropN ns p))) := Lib.hid (fun kb W' hb hk => drop_any ns hlen hne p kb _ _ nx W' hk (hN.below hb))
  have HRE : Hid (removeE ns p dir = if findE ns p = 0 then (if (foundN ns p).dir = true ∧ dir = false then 21 else if (foundN ns p).dir = false ∧ dir = true then 20 else if p = [47] then 22 else if filledN ns p = true then 39 else 0) else findE ns p) := Lib.hid rfl
  have HRL : Hid (removeL ns p dir = if removeE ns p dir = 0 then dropN ns p else ns) := Lib.hid rfl
  have HPA : Hid (findE ns p = 0 → pathB p = true) := Lib.hid (fun h => (findE_zero hr h).1)
  have h47 : ((mkB p).toList == [47]) = (p == [47]) := by rw [mkB_toList]
  clear hN hr hlen hne hpl
  generalize removeE ns p dir = re at HRE HRL ⊢
  generalize removeL ns p dir = rl at HRL ⊢
  generalize foundN ns p = x at HFI HRE
  by_cases hfe : findE ns p = 0
  · replace HFL := Lib.hid (HFL.out (HPA.out hfe))
    rw [hfe] at HFI
    replace HRE := Lib.hid (HRE.out.trans (if_pos hfe))
    clear HPA hfe
    cases hxd : x.dir <;> cases dir
    · replace HRE : Hid (re = if p = [47] then 22 else if filledN ns p = true then 39 else 0) := Lib.hid (by rw [HRE.out, hxd, if_neg (by decide), if_neg (by decide)])
      have HXV : Hid (nodeV x = #[.string (mkB x.path), .bool false, .string (mkB x.data), .int .i64 x.id]) := Lib.hid (by rw [nodeV, hxd])
      clear hxd
      cases h48 : (p == [47])
      · replace HRE := Lib.hid (HRE.out.trans (if_neg (beq_eq_false_iff_ne.1 h48)))
        rw [h48] at h47
        clear h48
        cases hfl : filledN ns p
        · obtain rfl : re = 0 := by rw [HRE.out, hfl]; rfl
          obtain rfl : rl = dropN ns p := by rw [HRL.out, if_pos rfl]
          rw [hfl] at HFL
          clear hfl HRE HRL
          go_enter Tryz.func12, Tryz.ntmps12
          go_upto_region 2 with fail
          have HF : Hid (∀ w', Below (W.heap.size + 3) (((W.alloc (.cells (keepV (.slice q ns.length c) nx) 24)).alloc (.cells (keepV (.slice none 0 0) 0) 24)).alloc (.cells (keepV (.slice q ns.length c) nx) 54)) w' → Below W.heap.size W w' ∧ w'.heap[W.heap.size]? = some (.cells (keepV (.slice q ns.length c) nx) 24) ∧ w'.heap[W.heap.size + 1]? = some (.cells (keepV (.slice none 0 0) 0) 24) ∧ w'.heap[W.heap.size + 1 + 1]? = some (.cells (keepV (.slice q ns.length c) nx) 54)) := Lib.hid (fun w' h => kept3 h)
          have HS0 : Hid ((((W.alloc (.cells (keepV (.slice q ns.length c) nx) 24)).alloc (.cells (keepV (.slice none 0 0) 0) 24)).alloc (.cells (keepV (.slice q ns.length c) nx) 54)).heap.size = W.heap.size + 3) := Lib.hid (by simp only [heap_len])
          generalize hK : (((W.alloc (.cells (keepV (.slice q ns.length c) nx) 24)).alloc (.cells (keepV (.slice none 0 0) 0) 24)).alloc (.cells (keepV (.slice q ns.length c) nx) 54)) = K0 at HF HS0 ⊢
          clear hK
          go_upto_region 3 with (go_at_call 25; refine (HFI.out _ _ (HF.out _ (Below.refl _ _)).1 (HF.out _ (Below.refl _ _)).2.2.2).mono ?_; rintro e w1 ⟨rfl, hb1⟩; rw [HXV.out]; have HB1 : Hid (Below (W.heap.size + 3) K0 w1) := Lib.hid (hb1.mono (by rw [HS0.out]; exact Nat.le_refl _)); clear hb1)
          have HA : Hid (∀ o, Below (W.heap.size + 3) K0 (w1.alloc o)) := Lib.hid (fun o => HB1.out.alloc (by have := HB1.out.size; have := HS0.out; omega) _)
          have HAZ := Lib.hid (fun o => HF.out _ (HA.out o))
          have t0 := fun o => cell_at (o := 0) (HAZ.out o).2.1 rfl
          have t1 := fun o => cell_at (o := 1) (HAZ.out o).2.1 rfl
          have HZ := Lib.hid (HAZ.out (.cells (nodeV x) 28)).2.2.1
          rw [HXV.out] at HZ
          go_upto_region 13 with (go_at_call 30; refine (HFL.out _ _ (HAZ.out _).1 (HAZ.out _).2.2.2).mono ?_; rintro e w2 ⟨rfl, hb2⟩; have HB2 : Hid (Below (W.heap.size + 3) K0 w2) := Lib.hid ((HA.out _).trans (hb2.mono (by have := HB1.out.size; have := HS0.out; simp only [heap_len]; omega))); have s0 := cell_at (o := 0) (HF.out _ HB2.out).2.1 rfl; have s1 := cell_at (o := 1) (HF.out _ HB2.out).2.1 rfl; have HZ2 := Lib.hid (HF.out _ HB2.out).2.2.1; clear hb2)
          clear t0 t1 HZ s0 s1 HZ2
          have HDR2 := Lib.hid (HDR.out _ _ (HF.out _ HB2.out).1 (HF.out _ HB2.out).2.2.2)
          have HZ3 : Hid (∀ w3, KeptBut (W.heap.size + 1 + 1) w2 w3 → w3.heap[W.heap.size + 1]? = some (.cells (keepV (.slice none 0 0) 0) 24) ∧ Below W.heap.size W w3) := Lib.hid (fun w3 h => ⟨(h.block _ (heap_lt (HF.out _ HB2.out).2.2.1) (by omega)).trans (HF.out _ HB2.out).2.2.1, (HF.out _ HB2.out).1.trans (h.below (by omega) (HF.out _ HB2.out).1.size)⟩)
          go_upto_region 14 with (go_at_call 31; refine HDR2.out.mono ?_; rintro e w3 ⟨rfl, hkb, v3, hv3, ho3⟩; obtain ⟨q3, c3, rfl⟩ := nodesV_slice (nodesV_of_own ho3); have k0 := cell_at (o := 0) hv3 rfl; have k1 := cell_at (o := 1) hv3 rfl; have HZ4 := Lib.hid (HZ3.out _ hkb).1; have HW3 := Lib.hid (HZ3.out _ hkb).2; have HO3 := Lib.hid ho3; clear hkb hv3 ho3)
          go_wp2_with (refine wpl_store 24 ?_; intro ee he; refine wpList_store_row he _ _ _ ee (W.heap.size + 1) (keepV (.slice q3 (dropN ns p).length c3) nx) rfl rfl 24 (keepV (.slice none 0 0) 0) HZ4.out (tree_size _ _) rfl (tree_one _) ?_)
          refine bodyPost_ret (res_cell_tmp rfl rfl (row_same HZ4.out) (by kernel_rfl) (tree_size _ _)) rfl ?_
          refine ⟨_, rfl, nodesV_of_own (ownsRow_above HO3.out (row_len _ _ _) (fun k hk => row_ne _ _ _ _ (by have := (HF.out _ HB2.out).2.2.2; have := heap_lt this; omega))), below_row HW3.out _ _ (by omega)⟩
        · obtain rfl : re = 39 := by rw [HRE.out, hfl]; rfl
          obtain rfl : ns = rl := by rw [HRL.out]; rfl
          rw [hfl] at HFL
          clear hfl HRE HRL HDR
          go_enter Tryz.func12, Tryz.ntmps12
          go_upto_region 2 with fail
          have HF : Hid (∀ w', Below (W.heap.size + 3) (((W.alloc (.cells (keepV (.slice q ns.length c) nx) 24)).alloc (.cells (keepV (.slice none 0 0) 0) 24)).alloc (.cells (keepV (.slice q ns.length c) nx) 54)) w' → Below W.heap.size W w' ∧ w'.heap[W.heap.size]? = some (.cells (keepV (.slice q ns.length c) nx) 24) ∧ w'.heap[W.heap.size + 1]? = some (.cells (keepV (.slice none 0 0) 0) 24) ∧ w'.heap[W.heap.size + 1 + 1]? = some (.cells (keepV (.slice q ns.length c) nx) 54)) := Lib.hid (fun w' h => kept3 h)
          have HS0 : Hid ((((W.alloc (.cells (keepV (.slice q ns.length c) nx) 24)).alloc (.cells (keepV (.slice none 0 0) 0) 24)).alloc (.cells (keepV (.slice q ns.length c) nx) 54)).heap.size = W.heap.size + 3) := Lib.hid (by simp only [heap_len])
          generalize hK : (((W.alloc (.cells (keepV (.slice q ns.length c) nx) 24)).alloc (.cells (keepV (.slice none 0 0) 0) 24)).alloc (.cells (keepV (.slice q ns.length c) nx) 54)) = K0 at HF HS0 ⊢
          clear hK
          go_upto_region 3 with (go_at_call 25; refine (HFI.out _ _ (HF.out _ (Below.refl _ _)).1 (HF.out _ (Below.refl _ _)).2.2.2).mono ?_; rintro e w1 ⟨rfl, hb1⟩; rw [HXV.out]; have HB1 : Hid (Below (W.heap.size + 3) K0 w1) := Lib.hid (hb1.mono (by rw [HS0.out]; exact Nat.le_refl _)); clear hb1)
          have HA : Hid (∀ o, Below (W.heap.size + 3) K0 (w1.alloc o)) := Lib.hid (fun o => HB1.out.alloc (by have := HB1.out.size; have := HS0.out; omega) _)
          have HAZ := Lib.hid (fun o => HF.out _ (HA.out o))
          have t0 := fun o => cell_at (o := 0) (HAZ.out o).2.1 rfl
          have t1 := fun o => cell_at (o := 1) (HAZ.out o).2.1 rfl
          have HZ := Lib.hid (HAZ.out (.cells (nodeV x) 28)).2.2.1
          rw [HXV.out] at HZ
          go_wp2_with (first
            | (go_at_call 30; refine (HFL.out _ _ (HAZ.out _).1 (HAZ.out _).2.2.2).mono ?_; rintro e w2 ⟨rfl, hb2⟩; have HB2 : Hid (Below (W.heap.size + 3) K0 w2) := Lib.hid ((HA.out _).trans (hb2.mono (by have := HB1.out.size; have := HS0.out; simp only [heap_len]; omega))); have s0 := cell_at (o := 0) (HF.out _ HB2.out).2.1 rfl; have s1 := cell_at (o := 1) (HF.out _ HB2.out).2.1 rfl; have HZ2 := Lib.hid (HF.out _ HB2.out).2.2.1; clear hb2)
            | (refine wpl_store 24 ?_; intro ee he; refine wpList_store_row he _ _ _ ee (W.heap.size + 1) (keepV (.slice q ns.length c) nx) rfl rfl 24 (keepV (.slice none 0 0) 0) HZ2.out (tree_size _ _) rfl (tree_one _) ?_))
          refine bodyPost_ret (res_cell_tmp rfl rfl (row_same HZ2.out) (by kernel_rfl) (tree_size _ _)) rfl ?_
          exact ⟨_, rfl, NodesV.below HN.out (below_row (HF.out _ HB2.out).1 _ _ (by omega)), below_row (HF.out _ HB2.out).1 _ _ (by omega)⟩
      · obtain rfl : re = 22 := by rw [HRE.out, if_pos (beq_iff_eq.1 h48)]
        obtain rfl : ns = rl := by rw [HRL.out]; rfl
        rw [h48] at h47
        clear h48 HRE HRL HDR HFL
        go_enter Tryz.func12, Tryz.ntmps12
        go_upto_region 2 with fail
        have HF : Hid (∀ w', Below (W.heap.size + 3) (((W.alloc (.cells (keepV (.slice q ns.length c) nx) 24)).alloc (.cells (keepV (.slice none 0 0) 0) 24)).alloc (.cells (keepV (.slice q ns.length c) nx) 54)) w' → Below W.heap.size W w' ∧ w'.heap[W.heap.size]? = some (.cells (keepV (.slice q ns.length c) nx) 24) ∧ w'.heap[W.heap.size + 1]? = some (.cells (keepV (.slice none 0 0) 0) 24) ∧ w'.heap[W.heap.size + 1 + 1]? = some (.cells (keepV (.slice q ns.length c) nx) 54)) := Lib.hid (fun w' h => kept3 h)
        have HS0 : Hid ((((W.alloc (.cells (keepV (.slice q ns.length c) nx) 24)).alloc (.cells (keepV (.slice none 0 0) 0) 24)).alloc (.cells (keepV (.slice q ns.length c) nx) 54)).heap.size = W.heap.size + 3) := Lib.hid (by simp only [heap_len])
        generalize hK : (((W.alloc (.cells (keepV (.slice q ns.length c) nx) 24)).alloc (.cells (keepV (.slice none 0 0) 0) 24)).alloc (.cells (keepV (.slice q ns.length c) nx) 54)) = K0 at HF HS0 ⊢
        clear hK
        go_upto_region 3 with (go_at_call 25; refine (HFI.out _ _ (HF.out _ (Below.refl _ _)).1 (HF.out _ (Below.refl _ _)).2.2.2).mono ?_; rintro e w1 ⟨rfl, hb1⟩; rw [HXV.out]; have HB1 : Hid (Below (W.heap.size + 3) K0 w1) := Lib.hid (hb1.mono (by rw [HS0.out]; exact Nat.le_refl _)); clear hb1)
        have HA : Hid (∀ o, Below (W.heap.size + 3) K0 (w1.alloc o)) := Lib.hid (fun o => HB1.out.alloc (by have := HB1.out.size; have := HS0.out; omega) _)
        have HAZ := Lib.hid (fun o => HF.out _ (HA.out o))
        have t0 := fun o => cell_at (o := 0) (HAZ.out o).2.1 rfl
        have t1 := fun o => cell_at (o := 1) (HAZ.out o).2.1 rfl
        have HZ := Lib.hid (HAZ.out (.cells (nodeV x) 28)).2.2.1
        rw [HXV.out] at HZ
        go_wp2_with (refine wpl_store 24 ?_; intro ee he; refine wpList_store_row he _ _ _ ee (W.heap.size + 1) (keepV (.slice q ns.length c) nx) rfl rfl 24 (keepV (.slice none 0 0) 0) HZ.out (tree_size _ _) rfl (tree_one _) ?_)
        refine bodyPost_ret (res_cell_tmp rfl rfl (row_same HZ.out) (by kernel_rfl) (tree_size _ _)) rfl ?_
        exact ⟨_, rfl, NodesV.below HN.out (below_row (HAZ.out _).1 _ _ (by omega)), below_row (HAZ.out _).1 _ _ (by omega)⟩
    · obtain rfl : re = 20 := by rw [HRE.out, hxd]; rfl
      obtain rfl : ns = rl := by rw [HRL.out]; rfl
      have HXV : Hid (nodeV x = #[.string (mkB x.path), .bool false, .string (mkB x.data), .int .i64 x.id]) := Lib.hid (by rw [nodeV, hxd])
      clear hxd HRE HRL HDR HFL h47
      go_enter Tryz.func12, Tryz.ntmps12
      go_upto_region 2 with fail
      have HF : Hid (∀ w', Below (W.heap.size + 3) (((W.alloc (.cells (keepV (.slice q ns.length c) nx) 24)).alloc (.cells (keepV (.slice none 0 0) 0) 24)).alloc (.cells (keepV (.slice q ns.length c) nx) 54)) w' → Below W.heap.size W w' ∧ w'.heap[W.heap.size]? = some (.cells (keepV (.slice q ns.length c) nx) 24) ∧ w'.heap[W.heap.size + 1]? = some (.cells (keepV (.slice none 0 0) 0) 24) ∧ w'.heap[W.heap.size + 1 + 1]? = some (.cells (keepV (.slice q ns.length c) nx) 54)) := Lib.hid (fun w' h => kept3 h)
      have HS0 : Hid ((((W.alloc (.cells (keepV (.slice q ns.length c) nx) 24)).alloc (.cells (keepV (.slice none 0 0) 0) 24)).alloc (.cells (keepV (.slice q ns.length c) nx) 54)).heap.size = W.heap.size + 3) := Lib.hid (by simp only [heap_len])
      generalize hK : (((W.alloc (.cells (keepV (.slice q ns.length c) nx) 24)).alloc (.cells (keepV (.slice none 0 0) 0) 24)).alloc (.cells (keepV (.slice q ns.length c) nx) 54)) = K0 at HF HS0 ⊢
      clear hK
      go_upto_region 3 with (go_at_call 25; refine (HFI.out _ _ (HF.out _ (Below.refl _ _)).1 (HF.out _ (Below.refl _ _)).2.2.2).mono ?_; rintro e w1 ⟨rfl, hb1⟩; rw [HXV.out]; have HB1 : Hid (Below (W.heap.size + 3) K0 w1) := Lib.hid (hb1.mono (by rw [HS0.out]; exact Nat.le_refl _)); clear hb1)
      have HA : Hid (∀ o, Below (W.heap.size + 3) K0 (w1.alloc o)) := Lib.hid (fun o => HB1.out.alloc (by have := HB1.out.size; have := HS0.out; omega) _)
      have HAZ := Lib.hid (fun o => HF.out _ (HA.out o))
      have t0 := fun o => cell_at (o := 0) (HAZ.out o).2.1 rfl
      have t1 := fun o => cell_at (o := 1) (HAZ.out o).2.1 rfl
      have HZ := Lib.hid (HAZ.out (.cells (nodeV x) 28)).2.2.1
      rw [HXV.out] at HZ
      go_wp2_with (refine wpl_store 24 ?_; intro ee he; refine wpList_store_row he _ _ _ ee (W.heap.size + 1) (keepV (.slice q ns.length c) nx) rfl rfl 24 (keepV (.slice none 0 0) 0) HZ.out (tree_size _ _) rfl (tree_one _) ?_)
      refine bodyPost_ret (res_cell_tmp rfl rfl (row_same HZ.out) (by kernel_rfl) (tree_size _ _)) rfl ?_
      exact ⟨_, rfl, NodesV.below HN.out (below_row (HAZ.out _).1 _ _ (by omega)), below_row (HAZ.out _).1 _ _ (by omega)⟩
    · obtain rfl : re = 21 := by rw [HRE.out, hxd]; rfl
      obtain rfl : ns = rl := by rw [HRL.out]; rfl
      have HXV : Hid (nodeV x = #[.string (mkB x.path), .bool true, .string (mkB x.data), .int .i64 x.id]) := Lib.hid (by rw [nodeV, hxd])
      clear hxd HRE HRL HDR HFL h47
      go_enter Tryz.func12, Tryz.ntmps12
      go_upto_region 2 with fail
      have HF : Hid (∀ w', Below (W.heap.size + 3) (((W.alloc (.cells (keepV (.slice q ns.length c) nx) 24)).alloc (.cells (keepV (.slice none 0 0) 0) 24)).alloc (.cells (keepV (.slice q ns.length c) nx) 54)) w' → Below W.heap.size W w' ∧ w'.heap[W.heap.size]? = some (.cells (keepV (.slice q ns.length c) nx) 24) ∧ w'.heap[W.heap.size + 1]? = some (.cells (keepV (.slice none 0 0) 0) 24) ∧ w'.heap[W.heap.size + 1 + 1]? = some (.cells (keepV (.slice q ns.length c) nx) 54)) := Lib.hid (fun w' h => kept3 h)
      have HS0 : Hid ((((W.alloc (.cells (keepV (.slice q ns.length c) nx) 24)).alloc (.cells (keepV (.slice none 0 0) 0) 24)).alloc (.cells (keepV (.slice q ns.length c) nx) 54)).heap.size = W.heap.size + 3) := Lib.hid (by simp only [heap_len])
      generalize hK : (((W.alloc (.cells (keepV (.slice q ns.length c) nx) 24)).alloc (.cells (keepV (.slice none 0 0) 0) 24)).alloc (.cells (keepV (.slice q ns.length c) nx) 54)) = K0 at HF HS0 ⊢
      clear hK
      go_upto_region 3 with (go_at_call 25; refine (HFI.out _ _ (HF.out _ (Below.refl _ _)).1 (HF.out _ (Below.refl _ _)).2.2.2).mono ?_; rintro e w1 ⟨rfl, hb1⟩; rw [HXV.out]; have HB1 : Hid (Below (W.heap.size + 3) K0 w1) := Lib.hid (hb1.mono (by rw [HS0.out]; exact Nat.le_refl _)); clear hb1)
      have HA : Hid (∀ o, Below (W.heap.size + 3) K0 (w1.alloc o)) := Lib.hid (fun o => HB1.out.alloc (by have := HB1.out.size; have := HS0.out; omega) _)
      have HAZ := Lib.hid (fun o => HF.out _ (HA.out o))
      have t0 := fun o => cell_at (o := 0) (HAZ.out o).2.1 rfl
      have t1 := fun o => cell_at (o := 1) (HAZ.out o).2.1 rfl
      have HZ := Lib.hid (HAZ.out (.cells (nodeV x) 28)).2.2.1
      rw [HXV.out] at HZ
      go_wp2_with (refine wpl_store 24 ?_; intro ee he; refine wpList_store_row he _ _ _ ee (W.heap.size + 1) (keepV (.slice q ns.length c) nx) rfl rfl 24 (keepV (.slice none 0 0) 0) HZ.out (tree_size _ _) rfl (tree_one _) ?_)
      refine bodyPost_ret (res_cell_tmp rfl rfl (row_same HZ.out) (by kernel_rfl) (tree_size _ _)) rfl ?_
      exact ⟨_, rfl, NodesV.below HN.out (below_row (HAZ.out _).1 _ _ (by omega)), below_row (HAZ.out _).1 _ _ (by omega)⟩
    · replace HRE : Hid (re = if p = [47] then 22 else if filledN ns p = true then 39 else 0) := Lib.hid (by rw [HRE.out, hxd, if_neg (by decide), if_neg (by decide)])
      have HXV : Hid (nodeV x = #[.string (mkB x.path), .bool true, .string (mkB x.data), .int .i64 x.id]) := Lib.hid (by rw [nodeV, hxd])
      clear hxd
      cases h48 : (p == [47])
      · replace HRE := Lib.hid (HRE.out.trans (if_neg (beq_eq_false_iff_ne.1 h48)))
        rw [h48] at h47
        clear h48
        cases hfl : filledN ns p
        · obtain rfl : re = 0 := by rw [HRE.out, hfl]; rfl
          obtain rfl : rl = dropN ns p := by rw [HRL.out, if_pos rfl]
          rw [hfl] at HFL
          clear hfl HRE HRL
          go_enter Tryz.func12, Tryz.ntmps12
          go_upto_region 2 with fail
          have HF : Hid (∀ w', Below (W.heap.size + 3) (((W.alloc (.cells (keepV (.slice q ns.length c) nx) 24)).alloc (.cells (keepV (.slice none 0 0) 0) 24)).alloc (.cells (keepV (.slice q ns.length c) nx) 54)) w' → Below W.heap.size W w' ∧ w'.heap[W.heap.size]? = some (.cells (keepV (.slice q ns.length c) nx) 24) ∧ w'.heap[W.heap.size + 1]? = some (.cells (keepV (.slice none 0 0) 0) 24) ∧ w'.heap[W.heap.size + 1 + 1]? = some (.cells (keepV (.slice q ns.length c) nx) 54)) := Lib.hid (fun w' h => kept3 h)
          have HS0 : Hid ((((W.alloc (.cells (keepV (.slice q ns.length c) nx) 24)).alloc (.cells (keepV (.slice none 0 0) 0) 24)).alloc (.cells (keepV (.slice q ns.length c) nx) 54)).heap.size = W.heap.size + 3) := Lib.hid (by simp only [heap_len])
          generalize hK : (((W.alloc (.cells (keepV (.slice q ns.length c) nx) 24)).alloc (.cells (keepV (.slice none 0 0) 0) 24)).alloc (.cells (keepV (.slice q ns.length c) nx) 54)) = K0 at HF HS0 ⊢
          clear hK
          go_upto_region 3 with (go_at_call 25; refine (HFI.out _ _ (HF.out _ (Below.refl _ _)).1 (HF.out _ (Below.refl _ _)).2.2.2).mono ?_; rintro e w1 ⟨rfl, hb1⟩; rw [HXV.out]; have HB1 : Hid (Below (W.heap.size + 3) K0 w1) := Lib.hid (hb1.mono (by rw [HS0.out]; exact Nat.le_refl _)); clear hb1)
          have HA : Hid (∀ o, Below (W.heap.size + 3) K0 (w1.alloc o)) := Lib.hid (fun o => HB1.out.alloc (by have := HB1.out.size; have := HS0.out; omega) _)
          have HAZ := Lib.hid (fun o => HF.out _ (HA.out o))
          have t0 := fun o => cell_at (o := 0) (HAZ.out o).2.1 rfl
          have t1 := fun o => cell_at (o := 1) (HAZ.out o).2.1 rfl
          have HZ := Lib.hid (HAZ.out (.cells (nodeV x) 28)).2.2.1
          rw [HXV.out] at HZ
          go_upto_region 13 with (go_at_call 30; refine (HFL.out _ _ (HAZ.out _).1 (HAZ.out _).2.2.2).mono ?_; rintro e w2 ⟨rfl, hb2⟩; have HB2 : Hid (Below (W.heap.size + 3) K0 w2) := Lib.hid ((HA.out _).trans (hb2.mono (by have := HB1.out.size; have := HS0.out; simp only [heap_len]; omega))); have s0 := cell_at (o := 0) (HF.out _ HB2.out).2.1 rfl; have s1 := cell_at (o := 1) (HF.out _ HB2.out).2.1 rfl; have HZ2 := Lib.hid (HF.out _ HB2.out).2.2.1; clear hb2)
          clear t0 t1 HZ s0 s1 HZ2
          have HDR2 := Lib.hid (HDR.out _ _ (HF.out _ HB2.out).1 (HF.out _ HB2.out).2.2.2)
          have HZ3 : Hid (∀ w3, KeptBut (W.heap.size + 1 + 1) w2 w3 → w3.heap[W.heap.size + 1]? = some (.cells (keepV (.slice none 0 0) 0) 24) ∧ Below W.heap.size W w3) := Lib.hid (fun w3 h => ⟨(h.block _ (heap_lt (HF.out _ HB2.out).2.2.1) (by omega)).trans (HF.out _ HB2.out).2.2.1, (HF.out _ HB2.out).1.trans (h.below (by omega) (HF.out _ HB2.out).1.size)⟩)
          go_upto_region 14 with (go_at_call 31; refine HDR2.out.mono ?_; rintro e w3 ⟨rfl, hkb, v3, hv3, ho3⟩; obtain ⟨q3, c3, rfl⟩ := nodesV_slice (nodesV_of_own ho3); have k0 := cell_at (o := 0) hv3 rfl; have k1 := cell_at (o := 1) hv3 rfl; have HZ4 := Lib.hid (HZ3.out _ hkb).1; have HW3 := Lib.hid (HZ3.out _ hkb).2; have HO3 := Lib.hid ho3; clear hkb hv3 ho3)
          go_wp2_with (refine wpl_store 24 ?_; intro ee he; refine wpList_store_row he _ _ _ ee (W.heap.size + 1) (keepV (.slice q3 (dropN ns p).length c3) nx) rfl rfl 24 (keepV (.slice none 0 0) 0) HZ4.out (tree_size _ _) rfl (tree_one _) ?_)
          refine bodyPost_ret (res_cell_tmp rfl rfl (row_same HZ4.out) (by kernel_rfl) (tree_size _ _)) rfl ?_
          refine ⟨_, rfl, nodesV_of_own (ownsRow_above HO3.out (row_len _ _ _) (fun k hk => row_ne _ _ _ _ (by have := (HF.out _ HB2.out).2.2.2; have := heap_lt this; omega))), below_row HW3.out _ _ (by omega)⟩
        · obtain rfl : re = 39 := by rw [HRE.out, hfl]; rfl
          obtain rfl : ns = rl := by rw [HRL.out]; rfl
          rw [hfl] at HFL
          clear hfl HRE HRL HDR
          go_enter Tryz.func12, Tryz.ntmps12
          go_upto_region 2 with fail
          have HF : Hid (∀ w', Below (W.heap.size + 3) (((W.alloc (.cells (keepV (.slice q ns.length c) nx) 24)).alloc (.cells (keepV (.slice none 0 0) 0) 24)).alloc (.cells (keepV (.slice q ns.length c) nx) 54)) w' → Below W.heap.size W w' ∧ w'.heap[W.heap.size]? = some (.cells (keepV (.slice q ns.length c) nx) 24) ∧ w'.heap[W.heap.size + 1]? = some (.cells (keepV (.slice none 0 0) 0) 24) ∧ w'.heap[W.heap.size + 1 + 1]? = some (.cells (keepV (.slice q ns.length c) nx) 54)) := Lib.hid (fun w' h => kept3 h)
          have HS0 : Hid ((((W.alloc (.cells (keepV (.slice q ns.length c) nx) 24)).alloc (.cells (keepV (.slice none 0 0) 0) 24)).alloc (.cells (keepV (.slice q ns.length c) nx) 54)).heap.size = W.heap.size + 3) := Lib.hid (by simp only [heap_len])
          generalize hK : (((W.alloc (.cells (keepV (.slice q ns.length c) nx) 24)).alloc (.cells (keepV (.slice none 0 0) 0) 24)).alloc (.cells (keepV (.slice q ns.length c) nx) 54)) = K0 at HF HS0 ⊢
          clear hK
          go_upto_region 3 with (go_at_call 25; refine (HFI.out _ _ (HF.out _ (Below.refl _ _)).1 (HF.out _ (Below.refl _ _)).2.2.2).mono ?_; rintro e w1 ⟨rfl, hb1⟩; rw [HXV.out]; have HB1 : Hid (Below (W.heap.size + 3) K0 w1) := Lib.hid (hb1.mono (by rw [HS0.out]; exact Nat.le_refl _)); clear hb1)
          have HA : Hid (∀ o, Below (W.heap.size + 3) K0 (w1.alloc o)) := Lib.hid (fun o => HB1.out.alloc (by have := HB1.out.size; have := HS0.out; omega) _)
          have HAZ := Lib.hid (fun o => HF.out _ (HA.out o))
          have t0 := fun o => cell_at (o := 0) (HAZ.out o).2.1 rfl
          have t1 := fun o => cell_at (o := 1) (HAZ.out o).2.1 rfl
          have HZ := Lib.hid (HAZ.out (.cells (nodeV x) 28)).2.2.1
          rw [HXV.out] at HZ
          go_wp2_with (first
            | (go_at_call 30; refine (HFL.out _ _ (HAZ.out _).1 (HAZ.out _).2.2.2).mono ?_; rintro e w2 ⟨rfl, hb2⟩; have HB2 : Hid (Below (W.heap.size + 3) K0 w2) := Lib.hid ((HA.out _).trans (hb2.mono (by have := HB1.out.size; have := HS0.out; simp only [heap_len]; omega))); have s0 := cell_at (o := 0) (HF.out _ HB2.out).2.1 rfl; have s1 := cell_at (o := 1) (HF.out _ HB2.out).2.1 rfl; have HZ2 := Lib.hid (HF.out _ HB2.out).2.2.1; clear hb2)
            | (refine wpl_store 24 ?_; intro ee he; refine wpList_store_row he _ _ _ ee (W.heap.size + 1) (keepV (.slice q ns.length c) nx) rfl rfl 24 (keepV (.slice none 0 0) 0) HZ2.out (tree_size _ _) rfl (tree_one _) ?_))
          refine bodyPost_ret (res_cell_tmp rfl rfl (row_same HZ2.out) (by kernel_rfl) (tree_size _ _)) rfl ?_
          exact ⟨_, rfl, NodesV.below HN.out (below_row (HF.out _ HB2.out).1 _ _ (by omega)), below_row (HF.out _ HB2.out).1 _ _ (by omega)⟩
      · obtain rfl : re = 22 := by rw [HRE.out, if_pos (beq_iff_eq.1 h48)]
        obtain rfl : ns = rl := by rw [HRL.out]; rfl
        rw [h48] at h47
        clear h48 HRE HRL HDR HFL
        go_enter Tryz.func12, Tryz.ntmps12
        go_upto_region 2 with fail
        have HF : Hid (∀ w', Below (W.heap.size + 3) (((W.alloc (.cells (keepV (.slice q ns.length c) nx) 24)).alloc (.cells (keepV (.slice none 0 0) 0) 24)).alloc (.cells (keepV (.slice q ns.length c) nx) 54)) w' → Below W.heap.size W w' ∧ w'.heap[W.heap.size]? = some (.cells (keepV (.slice q ns.length c) nx) 24) ∧ w'.heap[W.heap.size + 1]? = some (.cells (keepV (.slice none 0 0) 0) 24) ∧ w'.heap[W.heap.size + 1 + 1]? = some (.cells (keepV (.slice q ns.length c) nx) 54)) := Lib.hid (fun w' h => kept3 h)
        have HS0 : Hid ((((W.alloc (.cells (keepV (.slice q ns.length c) nx) 24)).alloc (.cells (keepV (.slice none 0 0) 0) 24)).alloc (.cells (keepV (.slice q ns.length c) nx) 54)).heap.size = W.heap.size + 3) := Lib.hid (by simp only [heap_len])
        generalize hK : (((W.alloc (.cells (keepV (.slice q ns.length c) nx) 24)).alloc (.cells (keepV (.slice none 0 0) 0) 24)).alloc (.cells (keepV (.slice q ns.length c) nx) 54)) = K0 at HF HS0 ⊢
        clear hK
        go_upto_region 3 with (go_at_call 25; refine (HFI.out _ _ (HF.out _ (Below.refl _ _)).1 (HF.out _ (Below.refl _ _)).2.2.2).mono ?_; rintro e w1 ⟨rfl, hb1⟩; rw [HXV.out]; have HB1 : Hid (Below (W.heap.size + 3) K0 w1) := Lib.hid (hb1.mono (by rw [HS0.out]; exact Nat.le_refl _)); clear hb1)
        have HA : Hid (∀ o, Below (W.heap.size + 3) K0 (w1.alloc o)) := Lib.hid (fun o => HB1.out.alloc (by have := HB1.out.size; have := HS0.out; omega) _)
        have HAZ := Lib.hid (fun o => HF.out _ (HA.out o))
        have t0 := fun o => cell_at (o := 0) (HAZ.out o).2.1 rfl
        have t1 := fun o => cell_at (o := 1) (HAZ.out o).2.1 rfl
        have HZ := Lib.hid (HAZ.out (.cells (nodeV x) 28)).2.2.1
        rw [HXV.out] at HZ
        go_wp2_with (refine wpl_store 24 ?_; intro ee he; refine wpList_store_row he _ _ _ ee (W.heap.size + 1) (keepV (.slice q ns.length c) nx) rfl rfl 24 (keepV (.slice none 0 0) 0) HZ.out (tree_size _ _) rfl (tree_one _) ?_)
        refine bodyPost_ret (res_cell_tmp rfl rfl (row_same HZ.out) (by kernel_rfl) (tree_size _ _)) rfl ?_
        exact ⟨_, rfl, NodesV.below HN.out (below_row (HAZ.out _).1 _ _ (by omega)), below_row (HAZ.out _).1 _ _ (by omega)⟩
  · obtain rfl : re = findE ns p := by rw [HRE.out, if_neg hfe]
    obtain rfl : ns = rl := by rw [HRL.out, if_neg hfe]
    clear HPA HFL HDR HRE HRL h47
    generalize findE ns p = fe at HFI hfe ⊢
    go_enter Tryz.func12, Tryz.ntmps12
    go_upto_region 2 with fail
    have HF : Hid (∀ w', Below (W.heap.size + 3) (((W.alloc (.cells (keepV (.slice q ns.length c) nx) 24)).alloc (.cells (keepV (.slice none 0 0) 0) 24)).alloc (.cells (keepV (.slice q ns.length c) nx) 54)) w' → Below W.heap.size W w' ∧ w'.heap[W.heap.size]? = some (.cells (keepV (.slice q ns.length c) nx) 24) ∧ w'.heap[W.heap.size + 1]? = some (.cells (keepV (.slice none 0 0) 0) 24) ∧ w'.heap[W.heap.size + 1 + 1]? = some (.cells (keepV (.slice q ns.length c) nx) 54)) := Lib.hid (fun w' h => kept3 h)
    have HS0 : Hid ((((W.alloc (.cells (keepV (.slice q ns.length c) nx) 24)).alloc (.cells (keepV (.slice none 0 0) 0) 24)).alloc (.cells (keepV (.slice q ns.length c) nx) 54)).heap.size = W.heap.size + 3) := Lib.hid (by simp only [heap_len])
    generalize hK : (((W.alloc (.cells (keepV (.slice q ns.length c) nx) 24)).alloc (.cells (keepV (.slice none 0 0) 0) 24)).alloc (.cells (keepV (.slice q ns.length c) nx) 54)) = K0 at HF HS0 ⊢
    clear hK
    go_upto_region 3 with (go_at_call 25; refine (HFI.out _ _ (HF.out _ (Below.refl _ _)).1 (HF.out _ (Below.refl _ _)).2.2.2).mono ?_; rintro e w1 ⟨rfl, hb1⟩; have HB1 : Hid (Below (W.heap.size + 3) K0 w1) := Lib.hid (hb1.mono (by rw [HS0.out]; exact Nat.le_refl _)); clear hb1)
    have HA : Hid (∀ o, Below (W.heap.size + 3) K0 (w1.alloc o)) := Lib.hid (fun o => HB1.out.alloc (by have := HB1.out.size; have := HS0.out; omega) _)
    have HAZ := Lib.hid (fun o => HF.out _ (HA.out o))
    have t0 := fun o => cell_at (o := 0) (HAZ.out o).2.1 rfl
    have t1 := fun o => cell_at (o := 1) (HAZ.out o).2.1 rfl
    have HZ := Lib.hid (HAZ.out (.cells (nodeV x) 28)).2.2.1
    go_wp2_with (refine wpl_store 24 ?_; intro ee he; refine wpList_store_row he _ _ _ ee (W.heap.size + 1) (keepV (.slice q ns.length c) nx) rfl rfl 24 (keepV (.slice none 0 0) 0) HZ.out (tree_size _ _) rfl (tree_one _) ?_)
    refine bodyPost_ret (res_cell_tmp rfl rfl (row_same HZ.out) (by kernel_rfl) (tree_size _ _)) rfl ?_
    exact ⟨_, rfl, NodesV.below HN.out (below_row (HAZ.out _).1 _ _ (by omega)), below_row (HAZ.out _).1 _ _ (by omega)⟩
end Go.Proofs.YtlpgandflkabcaaGreatDoor
