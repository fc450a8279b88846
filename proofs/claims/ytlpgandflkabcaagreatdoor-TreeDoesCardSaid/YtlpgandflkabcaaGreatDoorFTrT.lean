/-
  A new tree; nothing removed where something is below.
-/
import Derived.Test.YtlpgandflkabcaaGreatDoorFTrR
namespace Go.Proofs.YtlpgandflkabcaaGreatDoor
open Go Go.RowKit Go.Shelf
set_option linter.unusedVariables false
set_option linter.unusedSimpArgs false

set_option maxRecDepth 100000 in
theorem new_any (W : World) :
    Calls Tryz.prog 23 #[] W fun e w' => ∃ v', e = .returned (.agg (keepV v' 1)) ∧ NodesV w' v' [⟨[47], true, [], 0⟩] ∧ Below W.heap.size W w' := by
  go_enter Tryz.func23, Tryz.ntmps23
  go_upto_region 1 with fail
  have HZ : Hid (((W.alloc (.cells (keepV (.slice none 0 0) 0) 24)).alloc (.cells (nodeV ⟨[47], true, [], 0⟩) 28)).heap[W.heap.size]? = some (.cells (keepV (.slice none 0 0) 0) 24)) := Lib.hid (by rw [heap_old _ _ _ (by rw [heap_len]; omega)]; exact heap_new _ _ _ rfl)
  go_wp2_with (refine wpl_store 24 ?_; intro ee he; refine wpList_store_row he _ _ _ ee W.heap.size (keepV (.slice (some ⟨W.heap.size + 1, 0, none⟩) 1 1) 1) rfl rfl 24 (keepV (.slice none 0 0) 0) HZ.out (tree_size _ _) rfl (tree_one _) ?_)
  have hrow : ((((W.alloc (.cells (keepV (.slice none 0 0) 0) 24)).alloc (.cells (nodeV ⟨[47], true, [], 0⟩) 28)).setRow W.heap.size (keepV (.slice (some ⟨W.heap.size + 1, 0, none⟩) 1 1) 1)).heap[W.heap.size + 1]?) = some (.cells (nodeV ⟨[47], true, [], 0⟩) 28) := by
    rw [row_ne _ _ _ _ (by omega)]
    exact heap_new _ _ _ (by simp only [heap_len])
  refine bodyPost_ret (res_cell rfl rfl (row_same HZ.out) (by kernel_rfl) (tree_size _ _)) rfl ?_
  refine ⟨_, rfl, ⟨some ⟨W.heap.size + 1, 0, none⟩, 1, rfl, fun _ => ⟨W.heap.size + 1, 0, rfl, ⟨heap_lt hrow, fun i hi => ?_, fun i hi => ?_, fun i hi => ?_, fun i hi => ?_⟩⟩⟩, below_row (((Below.refl _ _).alloc (Nat.le_refl _) _).alloc (by rw [heap_len]; omega) _) _ _ (Nat.le_refl _)⟩ <;>
    (obtain rfl : i = 0 := by simpa using hi
     exact cell_at hrow rfl)
set_option maxRecDepth 100000 in
set_option maxHeartbeats 4000000 in
theorem remove_filled (ns : List NodeD) (hr : RiseS ns) (hlen : ns.length ≤ 1000) (p : List UInt8) (hp : pathB p = true) (hroot : p ≠ [47]) (k : Nat) (hk2 : k < ns.length) (hkp : ns[k].path = p) (hkd : ns[k].dir = true) (hfl : (ns.any fun x => belowQ x.path p) = true) (v : Value) (nx : Int) (W : World) (hN : NodesV W v ns) :
    Calls Tryz.prog 12 #[.agg (keepV v nx), .string (mkB p), .bool true] W fun e w' => e = .returned (.tuple #[.agg (keepV v nx), .int .i64 39]) ∧ Below W.heap.size W w' := by
  obtain ⟨q, c, rfl, hN0⟩ := hN
  have hN : NodesV W (.slice q ns.length c) ns := ⟨q, c, rfl, hN0⟩
  clear hN0
  have hpl := path_len hp
  have hroot2 : ((mkB p).toList == [47]) = false := by rw [mkB_toList]; simpa using hroot
  have HFI : Hid (∀ (kb : Nat) (W' : World), Below W.heap.size W W' → W'.heap[kb]? = some (.cells (keepV (.slice q ns.length c) nx) 54) → Calls Tryz.prog 25 #[.pointer (some ⟨kb, 0, none⟩), .string (mkB p)] W' fun e w' => e = .returned (.tuple #[.agg (nodeV ns[k]), .int .i64 0]) ∧ Below W'.heap.size W' w') := Lib.hid (fun kb W' hb hk => find_hit ns hr (by omega) p hp (by omega) k hk2 hkp kb _ _ nx W' hk (hN.below hb))
  have HFL : Hid (∀ (kb : Nat) (W' : World), Below W.heap.size W W' → W'.heap[kb]? = some (.cells (keepV (.slice q ns.length c) nx) 54) → Calls Tryz.prog 30 #[.pointer (some ⟨kb, 0, none⟩), .string (mkB p)] W' fun e w' => e = .returned (.bool true) ∧ Below W'.heap.size W' w') := Lib.hid (fun kb W' hb hk => by
    have := filled_any ns (by omega) p hp kb _ _ nx W' hk (hN.below hb)
    rw [hfl] at this
    exact this)
  clear hN hr hlen hp hpl hkp hfl hroot
  go_enter Tryz.func12, Tryz.ntmps12
  go_upto_region 2 with fail
  have HF : Hid (∀ w', Below (W.heap.size + 3) (((W.alloc (.cells (keepV (.slice q ns.length c) nx) 24)).alloc (.cells (keepV (.slice none 0 0) 0) 24)).alloc (.cells (keepV (.slice q ns.length c) nx) 54)) w' → Below W.heap.size W w' ∧ w'.heap[W.heap.size]? = some (.cells (keepV (.slice q ns.length c) nx) 24) ∧ w'.heap[W.heap.size + 1]? = some (.cells (keepV (.slice none 0 0) 0) 24) ∧ w'.heap[W.heap.size + 1 + 1]? = some (.cells (keepV (.slice q ns.length c) nx) 54)) := Lib.hid (fun w' h => ⟨?_, ?_, ?_, ?_⟩)
  rotate_left
  · exact ((((Below.refl _ _).alloc (Nat.le_refl _) _).alloc (by simp only [heap_len]; omega) _).alloc (by simp only [heap_len]; omega) _).trans (h.mono (by omega))
  · rw [h.block _ (by omega), heap_old _ _ _ (by simp only [heap_len]; omega), heap_old _ _ _ (by rw [heap_len]; omega)]; exact heap_new _ _ _ rfl
  · rw [h.block _ (by omega), heap_old _ _ _ (by simp only [heap_len]; omega)]; exact heap_new _ _ _ (by simp only [heap_len])
  · rw [h.block _ (by omega)]; exact heap_new _ _ _ (by simp only [heap_len])
  have HS0 : Hid ((((W.alloc (.cells (keepV (.slice q ns.length c) nx) 24)).alloc (.cells (keepV (.slice none 0 0) 0) 24)).alloc (.cells (keepV (.slice q ns.length c) nx) 54)).heap.size = W.heap.size + 3) := Lib.hid (by simp only [heap_len])
  generalize hK : (((W.alloc (.cells (keepV (.slice q ns.length c) nx) 24)).alloc (.cells (keepV (.slice none 0 0) 0) 24)).alloc (.cells (keepV (.slice q ns.length c) nx) 54)) = K0 at HF HS0 ⊢
  clear hK
  go_upto_region 11 with (go_at_call 25; refine (HFI.out _ _ (HF.out _ (Below.refl _ _)).1 (HF.out _ (Below.refl _ _)).2.2.2).mono ?_; rintro e w1 ⟨rfl, hb1⟩; have HB1 : Hid (Below (W.heap.size + 3) K0 w1) := Lib.hid (hb1.mono (by rw [HS0.out]; exact Nat.le_refl _)); clear hb1)
  have hA : ∀ o, Below (W.heap.size + 3) K0 (w1.alloc o) := fun o => HB1.out.alloc (by have := HB1.out.size; have := HS0.out; omega) _
  have HA := Lib.hid hA
  clear hA
  go_upto_region 12 with (go_at_call 30; refine (HFL.out _ _ (HF.out _ (HA.out _)).1 (HF.out _ (HA.out _)).2.2.2).mono ?_; rintro e w2 ⟨rfl, hb2⟩; have HB2 : Hid (Below (W.heap.size + 3) K0 w2) := Lib.hid ((HA.out _).trans (hb2.mono (by have := HB1.out.size; have := HS0.out; simp only [heap_len]; omega))); clear hb2)
  obtain ⟨f1, f2, f3, f4⟩ := HF.out _ HB2.out
  have t0 := cell_at (o := 0) f2 rfl
  have t1 := cell_at (o := 1) f2 rfl
  have FW := Lib.hid f1
  have HZ := Lib.hid f3
  clear f1 f2 f3 f4
  go_wp2_with (refine wpl_store 24 ?_; intro ee he; refine wpList_store_row he _ _ _ ee (W.heap.size + 1) (keepV (.slice q ns.length c) nx) rfl rfl 24 (keepV (.slice none 0 0) 0) HZ.out (tree_size _ _) rfl (tree_one _) ?_)
  refine bodyPost_ret (res_cell_tmp rfl rfl (row_same HZ.out) (by kernel_rfl) (tree_size _ _)) rfl ?_
  exact ⟨rfl, below_row FW.out _ _ (by omega)⟩
end Go.Proofs.YtlpgandflkabcaaGreatDoor
