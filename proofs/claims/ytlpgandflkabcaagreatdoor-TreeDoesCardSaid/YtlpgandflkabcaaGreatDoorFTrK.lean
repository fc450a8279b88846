/-
  A tree's keeper: where a node is, what is found, what is filled.
-/
import Derived.Test.YtlpgandflkabcaaGreatDoorFTrJ
namespace Go.Proofs.YtlpgandflkabcaaGreatDoor
open Go Go.RowKit Go.Shelf
set_option linter.unusedVariables false
set_option linter.unusedSimpArgs false

abbrev keepV (v : Value) (nx : Int) : Array Value := #[v, .int .i64 nx]
theorem at_any (ns : List NodeD) (hr : RiseS ns) (hlen : ns.length ≤ 1000000) (p : List UInt8) (kb : Nat) (t : TypeId) (v : Value) (nx : Int) (W : World) (hk : W.heap[kb]? = some (.cells (keepV v nx) t)) (hN : NodesV W v ns) :
    Calls Tryz.prog 27 #[.pointer (some ⟨kb, 0, none⟩), .string (mkB p)] W fun e w' => e = .returned (.tuple #[.int .i64 (lowS ns p : Nat), .bool (hasS ns p)]) ∧ Below W.heap.size W w' := by
  have HB := Lib.hid (bsN_any ns hr hlen p v W hN (fun x W' _ => order_any x p W'))
  have k0 := cell_at (o := 0) hk rfl
  obtain ⟨q, c, rfl, hN⟩ := hN
  clear hN hr hlen hk
  go_enter Tryz.func27, Tryz.ntmps27
  go_wp2_with (go_at_call 56; refine HB.out.mono ?_; rintro e w2 ⟨rfl, hb2⟩)
  go_ret2
  exact ⟨rfl, hb2⟩
theorem node_size (x : NodeD) : (Tryz.prog.info? 28).map (·.size) = some (nodeV x).size := by kernel_rfl
theorem node_one (x : NodeD) : (nodeV x).all (·.oneCell') = true := by simp [Value.oneCell']
set_option maxRecDepth 100000 in
theorem find_hit (ns : List NodeD) (hr : RiseS ns) (hlen : ns.length ≤ 1000000) (p : List UInt8) (hp : pathB p = true) (hpl : p.length ≤ 1000000) (k : Nat) (hk2 : k < ns.length) (hkp : ns[k].path = p) (kb : Nat) (t : TypeId) (v : Value) (nx : Int) (W : World) (hk : W.heap[kb]? = some (.cells (keepV v nx) t)) (hN : NodesV W v ns) :
    Calls Tryz.prog 25 #[.pointer (some ⟨kb, 0, none⟩), .string (mkB p)] W fun e w' => e = .returned (.tuple #[.agg (nodeV ns[k]), .int .i64 0]) ∧ Below W.heap.size W w' := by
  have hl : lowS ns p = k := lowS_of (Nat.le_of_lt hk2) (fun j hj hjk => by rw [← hkp]; exact hr.at hk2 hjk) (fun j hj hkj => by
    rcases Nat.lt_or_eq_of_le hkj with h | rfl
    · rw [← hkp]; exact ltS_asymm (hr.at hj h)
    · rw [← hkp]; exact ltS_irrefl _)
  have hh : hasS ns p = true := hasS_iff.2 ⟨_, List.getElem_mem hk2, hkp⟩
  have HP := Lib.hid (isPath_any p)
  have HPB := Lib.hid hp
  have HPL := Lib.hid hpl
  have HAT : Hid (∀ W', Below W.heap.size W W' → Calls Tryz.prog 27 #[.pointer (some ⟨kb, 0, none⟩), .string (mkB p)] W' fun e w' => e = .returned (.tuple #[.int .i64 (k : Nat), .bool true]) ∧ Below W'.heap.size W' w') := Lib.hid (fun W' hb => by
    have := at_any ns hr hlen p kb t v nx W' ((hb.block _ (heap_lt hk)).trans hk) (hN.below hb)
    rw [hl, hh] at this
    exact this)
  have HN := Lib.hid hN
  have HK := Lib.hid hk
  have i1 : (k : Int) < (ns.length : Int) := by omega
  clear hr hp hpl hkp hl hh hN hk
  go_enter Tryz.func25, Tryz.ntmps25
  go_upto_region 5 with (first
    | (go_at_call 26; refine (HP.out _ HPL.out).mono ?_; rintro e w1 ⟨rfl, hb1⟩; rw [HPB.out]; have HB1 : Hid (Below W.heap.size W w1) := Lib.hid (((Below.refl _ _).alloc (Nat.le_refl _) _).trans (hb1.mono (by simp only [heap_len]; omega))); have HC1 := Lib.hid hb1; clear hb1)
    | (go_at_call 27; refine (HAT.out _ HB1.out).mono ?_; rintro e w2 ⟨rfl, hb2⟩; have HB2 : Hid (Below W.heap.size W w2) := Lib.hid (HB1.out.trans (hb2.mono HB1.out.size)); have HC2 := Lib.hid hb2; clear hb2))
  obtain ⟨q, c, rfl, hN⟩ := HN.out
  obtain ⟨b, off, rfl, hrow⟩ := hN (nonil hk2)
  have hrow2 := hrow.below HB2.out
  have k0 := cell_at (o := 0) ((HB2.out.block _ (heap_lt HK.out)).trans HK.out) rfl
  have c0 := hrow2.c0 k hk2
  have c1 := hrow2.c1 k hk2
  have c2 := hrow2.c2 k hk2
  have c3 := hrow2.c3 k hk2
  have hz : w2.heap[W.heap.size]? = some (.cells (nodeV ⟨[], false, [], 0⟩) 28) := (HC2.out.block _ (Nat.lt_of_lt_of_le (by simp only [heap_len]; omega) HC1.out.size)).trans ((HC1.out.block _ (by simp only [heap_len]; omega)).trans (heap_new _ _ _ rfl))
  have HZ := Lib.hid hz
  clear hN hrow hrow2 hz
  go_wp2_with (refine wpl_store 28 ?_; intro ee he; refine wpList_store_row he _ _ _ ee W.heap.size (nodeV ns[k]) rfl rfl 28 (nodeV ⟨[], false, [], 0⟩) HZ.out (node_size _) rfl (node_one _) ?_)
  refine bodyPost_ret (res_cell_tmp rfl rfl (row_same HZ.out) (by kernel_rfl) (node_size _)) rfl ?_
  exact ⟨rfl, below_row HB2.out _ _ (Nat.le_refl _)⟩
set_option maxRecDepth 100000 in
/-- What is found. -/
theorem findT_hit (ns : List NodeD) (hr : RiseS ns) (hlen : ns.length ≤ 1000000) (p : List UInt8) (hp : pathB p = true) (hpl : p.length ≤ 1000000) (k : Nat) (hk2 : k < ns.length) (hkp : ns[k].path = p) (v : Value) (nx : Int) (W : World) (hN : NodesV W v ns) :
    Calls Tryz.prog 9 #[.agg (keepV v nx), .string (mkB p)] W fun e w' => e = .returned (.tuple #[.agg (nodeV ns[k]), .int .i64 0]) ∧ Below W.heap.size W w' := by
  obtain ⟨q, c, rfl, hN0⟩ := hN
  have hN : NodesV W (.slice q ns.length c) ns := ⟨q, c, rfl, hN0⟩
  clear hN0
  have HF : Hid (∀ (kb : Nat) (W' : World), Below W.heap.size W W' → W'.heap[kb]? = some (.cells (keepV (.slice q ns.length c) nx) 54) → Calls Tryz.prog 25 #[.pointer (some ⟨kb, 0, none⟩), .string (mkB p)] W' fun e w' => e = .returned (.tuple #[.agg (nodeV ns[k]), .int .i64 0]) ∧ Below W'.heap.size W' w') := Lib.hid (fun kb W' hb hk => find_hit ns hr hlen p hp hpl k hk2 hkp kb _ _ nx W' hk (hN.below hb))
  clear hN hr hlen hp hpl hkp
  go_enter Tryz.func9, Tryz.ntmps9
  go_upto_region 1 with fail
  have HZ : Hid (∀ w1 : World, Below ((W.alloc (.cells (keepV (.slice q ns.length c) nx) 24)).alloc (.cells (nodeV ⟨[], false, [], 0⟩) 28)).heap.size ((W.alloc (.cells (keepV (.slice q ns.length c) nx) 24)).alloc (.cells (nodeV ⟨[], false, [], 0⟩) 28)) w1 → w1.heap[W.heap.size + 1]? = some (.cells (nodeV ⟨[], false, [], 0⟩) 28)) := Lib.hid (fun w1 h => (h.block _ (by simp only [heap_len]; omega)).trans (heap_new _ _ _ (by simp only [heap_len])))
  go_wp2_with (first
    | (go_at_call 25; refine (HF.out _ _ ((((Below.refl _ _).alloc (Nat.le_refl _) _).alloc (by simp only [heap_len]; omega) _).alloc (by simp only [heap_len]; omega) _) (heap_new _ _ _ (by simp only [heap_len]))).mono ?_; rintro e w2 ⟨rfl, hb2⟩; have HB2 := Lib.hid hb2; have hz := HZ.out w2 (((Below.refl _ _).alloc (Nat.le_refl _) _).trans (hb2.mono (by simp only [heap_len]; omega))); have HZ2 := Lib.hid hz; clear hz hb2)
    | (refine wpl_store 28 ?_; intro ee he; refine wpList_store_row he _ _ _ ee (W.heap.size + 1) (nodeV ns[k]) rfl rfl 28 (nodeV ⟨[], false, [], 0⟩) HZ2.out (node_size _) rfl (node_one _) ?_))
  refine bodyPost_ret (res_cell_tmp rfl rfl (row_same HZ2.out) (by kernel_rfl) (node_size _)) rfl ?_
  refine ⟨rfl, below_row ?_ _ _ (by omega)⟩
  exact ((((Below.refl _ _).alloc (Nat.le_refl _) _).alloc (by simp only [heap_len]; omega) _).alloc (by simp only [heap_len]; omega) _).trans (HB2.out.mono (by simp only [heap_len]; omega))
end Go.Proofs.YtlpgandflkabcaaGreatDoor
