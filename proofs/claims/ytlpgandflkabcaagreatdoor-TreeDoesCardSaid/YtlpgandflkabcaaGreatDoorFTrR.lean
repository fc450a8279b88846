/-
  A new tree; a node made.
-/
import Derived.Test.YtlpgandflkabcaaGreatDoorFTrN
namespace Go.Proofs.YtlpgandflkabcaaGreatDoor
open Go Go.RowKit Go.Shelf
set_option linter.unusedVariables false
set_option linter.unusedSimpArgs false

theorem tree_size (v : Value) (nx : Int) : (Tryz.prog.info? 24).map (·.size) = some (keepV v nx).size := by kernel_rfl
theorem tree_one {q : Option Addr} {n c : Nat} (nx : Int) : (keepV (.slice q n c) nx).all (·.oneCell') = true := by simp [Value.oneCell']
theorem nodesV_slice {w : World} {v : Value} {l : List NodeD} (h : NodesV w v l) : ∃ q c, v = .slice q l.length c := by
  obtain ⟨q, c, rfl, _⟩ := h
  exact ⟨q, c, rfl⟩
theorem ownsRow_above {w w' : World} {B : Nat} {e : TypeId} {size : Nat} {v : Value} {n : Nat} {xs : List Value} (h : w.ownsRow B e size v n xs) (hs : w'.heap.size = w.heap.size) (hb : ∀ k, B ≤ k → w'.heap[k]? = w.heap[k]?) : w'.ownsRow B e size v n xs := by
  obtain ⟨h1, h2⟩ := h
  refine ⟨h1, ?_⟩
  rcases h2 with h2 | ⟨g, cap, cur, e1, hg, hc, h3⟩
  · exact .inl h2
  · exact .inr ⟨g, cap, cur, e1, hg, (hb g hg).trans hc, h3⟩
set_option maxRecDepth 100000 in
set_option maxHeartbeats 4000000 in
theorem make_hit (ns : List NodeD) (hr : RiseS ns) (hlen : ns.length < 40) (p : List UInt8) (hp : pathB p = true) (dir : Bool) (hno : hasS ns p = false) (k : Nat) (hk2 : k < ns.length) (hkp : ns[k].path = dirP p) (hkd : ns[k].dir = true) (v : Value) (nx : Int) (h0 : 0 ≤ nx) (h1 : nx < 1048576) (W : World) (hN : NodesV W v ns) :
    Calls Tryz.prog 10 #[.agg (keepV v nx), .string (mkB p), .bool dir] W fun e w' => ∃ v', e = .returned (.tuple #[.agg (keepV v' (nx + 1)), .int .i64 0]) ∧ w'.ownsRow W.heap.size 28 4 v' (withN ns ⟨p, dir, [], nx⟩).length (nodeVs (withN ns ⟨p, dir, [], nx⟩)) ∧ Below W.heap.size W w' := by
  obtain ⟨q, c, rfl, hN0⟩ := hN
  have hN : NodesV W (.slice q ns.length c) ns := ⟨q, c, rfl, hN0⟩
  clear hN0
  have hpl := path_len hp
  have HP := Lib.hid (fun w => isPath_any p w (by omega))
  have HPB := Lib.hid hp
  have HAT : Hid (∀ (kb : Nat) (W' : World), Below W.heap.size W W' → W'.heap[kb]? = some (.cells (keepV (.slice q ns.length c) nx) 54) → Calls Tryz.prog 27 #[.pointer (some ⟨kb, 0, none⟩), .string (mkB p)] W' fun e w' => e = .returned (.tuple #[.int .i64 (lowS ns p : Nat), .bool false]) ∧ Below W'.heap.size W' w') := Lib.hid (fun kb W' hb hk => by
    have := at_any ns hr (by omega) p kb _ _ nx W' hk (hN.below hb)
    rw [hno] at this
    exact this)
  have HPA : Hid (∀ (kb : Nat) (W' : World), Below W.heap.size W W' → W'.heap[kb]? = some (.cells (keepV (.slice q ns.length c) nx) 54) → Calls Tryz.prog 28 #[.pointer (some ⟨kb, 0, none⟩), .string (mkB p)] W' fun e w' => e = .returned (.int .i64 0) ∧ Below W'.heap.size W' w') := Lib.hid (fun kb W' hb hk => parent_hit ns hr (by omega) p hp k hk2 hkp hkd kb _ _ nx W' hk (hN.below hb))
  have HAD : Hid (∀ (kb : Nat) (W' : World), Below W.heap.size W W' → W'.heap[kb]? = some (.cells (keepV (.slice q ns.length c) nx) 54) → Calls Tryz.prog 29 #[.pointer (some ⟨kb, 0, none⟩), .agg (nodeV ⟨p, dir, [], nx⟩)] W' fun e w' => e = .returned (.tuple #[]) ∧ KeptBut kb W' w' ∧ ∃ v', w'.heap[kb]? = some (.cells (keepV v' nx) 54) ∧ w'.ownsRow W'.heap.size 28 4 v' (withN ns ⟨p, dir, [], nx⟩).length (nodeVs (withN ns ⟨p, dir, [], nx⟩))) := Lib.hid (fun kb W' hb hk => add_any ns hr (by omega) ⟨p, dir, [], nx⟩ kb _ _ nx W' hk (hN.below hb))
  have hli : ¬ (40 : Int) ≤ (ns.length : Int) := by omega
  have hnx : ¬ (1048576 : Int) ≤ nx := by omega
  clear hN hr hlen hp hpl hno hkp hkd
  go_enter Tryz.func10, Tryz.ntmps10
  go_upto_region 2 with fail
  have HF : Hid (∀ w', Below (W.heap.size + 3) (((W.alloc (.cells (keepV (.slice q ns.length c) nx) 24)).alloc (.cells (keepV (.slice none 0 0) 0) 24)).alloc (.cells (keepV (.slice q ns.length c) nx) 54)) w' → Below W.heap.size W w' ∧ w'.heap[W.heap.size]? = some (.cells (keepV (.slice q ns.length c) nx) 24) ∧ w'.heap[W.heap.size + 1]? = some (.cells (keepV (.slice none 0 0) 0) 24) ∧ w'.heap[W.heap.size + 1 + 1]? = some (.cells (keepV (.slice q ns.length c) nx) 54)) := Lib.hid (fun w' h => ⟨?_, ?_, ?_, ?_⟩)
  rotate_left
  · exact ((((Below.refl _ _).alloc (Nat.le_refl _) _).alloc (by simp only [heap_len]; omega) _).alloc (by simp only [heap_len]; omega) _).trans (h.mono (by omega))
  · rw [h.block _ (by omega), heap_old _ _ _ (by simp only [heap_len]; omega), heap_old _ _ _ (by rw [heap_len]; omega)]; exact heap_new _ _ _ rfl
  · rw [h.block _ (by omega), heap_old _ _ _ (by simp only [heap_len]; omega)]; exact heap_new _ _ _ (by simp only [heap_len])
  · rw [h.block _ (by omega)]; exact heap_new _ _ _ (by simp only [heap_len])
  have HS0 : Hid ((((W.alloc (.cells (keepV (.slice q ns.length c) nx) 24)).alloc (.cells (keepV (.slice none 0 0) 0) 24)).alloc (.cells (keepV (.slice q ns.length c) nx) 54)).heap.size = W.heap.size + 3) := Lib.hid (by simp only [heap_len])
  generalize hK : (((W.alloc (.cells (keepV (.slice q ns.length c) nx) 24)).alloc (.cells (keepV (.slice none 0 0) 0) 24)).alloc (.cells (keepV (.slice q ns.length c) nx) 54)) = K0 at HF HS0 ⊢
  clear hK
  go_upto_region 10 with (first
    | (go_at_call 26; refine (HP.out _).mono ?_; rintro e w1 ⟨rfl, hb1⟩; rw [HPB.out]; have HB1 : Hid (Below (W.heap.size + 3) K0 w1) := Lib.hid (hb1.mono (by rw [HS0.out]; exact Nat.le_refl _)); clear hb1)
    | (go_at_call 27; refine (HAT.out _ _ (HF.out _ HB1.out).1 (HF.out _ HB1.out).2.2.2).mono ?_; rintro e w2 ⟨rfl, hb2⟩; have HB2 : Hid (Below (W.heap.size + 3) K0 w2) := Lib.hid (HB1.out.trans (hb2.mono (by have := HB1.out.size; have := HS0.out; omega))); clear hb2)
    | (go_at_call 28; refine (HPA.out _ _ (HF.out _ HB2.out).1 (HF.out _ HB2.out).2.2.2).mono ?_; rintro e w3 ⟨rfl, hb3⟩; have HB3 : Hid (Below (W.heap.size + 3) K0 w3) := Lib.hid (HB2.out.trans (hb3.mono (by have := HB2.out.size; have := HS0.out; omega))); clear hb3))
  obtain ⟨f1, f2, f3, f4⟩ := HF.out _ HB3.out
  have t0 := cell_at (o := 0) f2 rfl
  have t1 := cell_at (o := 1) f2 rfl
  have FW := Lib.hid f1
  have F3 := Lib.hid f3
  have F4 := Lib.hid f4
  clear f1 f2 f3 f4
  go_upto_region 13 with (go_at_call 29; refine (HAD.out _ _ FW.out F4.out).mono ?_; rintro e w4 ⟨rfl, hkb, v', hv', hN'⟩; have HKB := Lib.hid hkb; have HV := Lib.hid hv'; have HN := Lib.hid hN'; clear hkb hv' hN')
  obtain ⟨q', c', rfl⟩ := nodesV_slice (nodesV_of_own HN.out)
  have k0 := cell_at (o := 0) HV.out rfl
  have k1 := cell_at (o := 1) HV.out rfl
  have kfz : w4.frozen? ⟨W.heap.size + 1 + 1, 1, none⟩ = false := by simp [World.frozen?, HV.out]
  have HZ : Hid ((w4.setCell ⟨W.heap.size + 1 + 1, 1, none⟩ (.int .i64 (nx + 1))).heap[W.heap.size + 1]? = some (.cells (keepV (.slice none 0 0) 0) 24)) := Lib.hid (by
    rw [heap_set_ne _ _ _ _ _ (by omega), HKB.out.block _ (heap_lt F3.out) (by omega)]
    exact F3.out)
  have HW : Hid (Below W.heap.size W (w4.setCell ⟨W.heap.size + 1 + 1, 1, none⟩ (.int .i64 (nx + 1)))) := Lib.hid ((FW.out.trans (HKB.out.below (by omega) FW.out.size)).setCell (by show W.heap.size ≤ W.heap.size + 1 + 1; omega) _)
  go_wp2_with (refine wpl_store 24 ?_; intro ee he; refine wpList_store_row he _ _ _ ee (W.heap.size + 1) (keepV (.slice q' (withN ns ⟨p, dir, [], nx⟩).length c') (nx + 1)) rfl rfl 24 (keepV (.slice none 0 0) 0) HZ.out (tree_size _ _) rfl (tree_one _) ?_)
  refine bodyPost_ret (res_cell_tmp rfl rfl (row_same HZ.out) (by kernel_rfl) (tree_size _ _)) rfl ?_
  refine ⟨_, rfl, ?_, below_row HW.out _ _ (by omega)⟩
  refine ownsRow_le (ownsRow_above HN.out (by rw [row_len, heap_set_len]) (fun k hk => ?_)) FW.out.size
  have := heap_lt F4.out
  rw [row_ne _ _ _ _ (by omega), heap_set_ne _ _ _ _ _ (by omega)]
end Go.Proofs.YtlpgandflkabcaaGreatDoor
