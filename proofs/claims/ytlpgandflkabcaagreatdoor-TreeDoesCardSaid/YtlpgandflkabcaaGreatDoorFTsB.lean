/-
  What is not found, what is no directory: Find and List.
-/
import Derived.Test.YtlpgandflkabcaaGreatDoorFTsA
namespace Go.Proofs.YtlpgandflkabcaaGreatDoor
open Go Go.RowKit Go.Shelf
set_option linter.unusedVariables false
set_option linter.unusedSimpArgs false

def findE (ns : List NodeD) (p : List UInt8) : Int := if pathB p = true then (if hasS ns p = true then 0 else missE ns p) else 22
theorem missE_ne (ns : List NodeD) (p : List UInt8) : missE ns p = 20 ∨ missE ns p = 2 := upE_ne ns _
set_option maxRecDepth 100000 in
theorem find_fail (ns : List NodeD) (hr : RiseS ns) (hlen : ns.length ≤ 1000000) (p : List UInt8) (hpl : p.length ≤ 1000000) (he : findE ns p ≠ 0) (kb : Nat) (t : TypeId) (v : Value) (nx : Int) (W : World) (hk : W.heap[kb]? = some (.cells (keepV v nx) t)) (hN : NodesV W v ns) :
    Calls Tryz.prog 25 #[.pointer (some ⟨kb, 0, none⟩), .string (mkB p)] W fun e w' => e = .returned (.tuple #[.agg (nodeV noneN), .int .i64 (findE ns p)]) ∧ Below W.heap.size W w' := by
  cases hp : pathB p
  · rw [show findE ns p = 22 by rw [findE, hp]; rfl]
    exact find_bad p hp hpl kb W
  · cases hh : hasS ns p
    · rw [show findE ns p = missE ns p by rw [findE, hp, hh]; rfl]
      exact find_miss ns hr hlen p hp hh kb t v nx W hk hN
    · exact absurd (show findE ns p = 0 by rw [findE, hp, hh]; rfl) he
set_option maxRecDepth 100000 in
theorem findT_fail (ns : List NodeD) (hr : RiseS ns) (hlen : ns.length ≤ 1000000) (p : List UInt8) (hpl : p.length ≤ 1000000) (he : findE ns p ≠ 0) (v : Value) (nx : Int) (W : World) (hN : NodesV W v ns) :
    Calls Tryz.prog 9 #[.agg (keepV v nx), .string (mkB p)] W fun e w' => e = .returned (.tuple #[.agg (nodeV noneN), .int .i64 (findE ns p)]) ∧ Below W.heap.size W w' := by
  obtain ⟨q, c, rfl, hN0⟩ := hN
  have hN : NodesV W (.slice q ns.length c) ns := ⟨q, c, rfl, hN0⟩
  clear hN0
  have HF : Hid (∀ (kb : Nat) (W' : World), Below W.heap.size W W' → W'.heap[kb]? = some (.cells (keepV (.slice q ns.length c) nx) 54) → Calls Tryz.prog 25 #[.pointer (some ⟨kb, 0, none⟩), .string (mkB p)] W' fun e w' => e = .returned (.tuple #[.agg (nodeV noneN), .int .i64 (findE ns p)]) ∧ Below W'.heap.size W' w') := Lib.hid (fun kb W' hb hk => find_fail ns hr hlen p hpl he kb _ _ nx W' hk (hN.below hb))
  clear hN hr hlen hpl he
  generalize findE ns p = fe at HF ⊢
  go_enter Tryz.func9, Tryz.ntmps9
  go_upto_region 1 with fail
  have HZ : Hid (∀ w1 : World, Below ((W.alloc (.cells (keepV (.slice q ns.length c) nx) 24)).alloc (.cells (nodeV ⟨[], false, [], 0⟩) 28)).heap.size ((W.alloc (.cells (keepV (.slice q ns.length c) nx) 24)).alloc (.cells (nodeV ⟨[], false, [], 0⟩) 28)) w1 → w1.heap[W.heap.size + 1]? = some (.cells (nodeV ⟨[], false, [], 0⟩) 28)) := Lib.hid (fun w1 h => (h.block _ (by simp only [heap_len]; omega)).trans (heap_new _ _ _ (by simp only [heap_len])))
  go_wp2_with (first
    | (go_at_call 25; refine (HF.out _ _ ((((Below.refl _ _).alloc (Nat.le_refl _) _).alloc (by simp only [heap_len]; omega) _).alloc (by simp only [heap_len]; omega) _) (heap_new _ _ _ (by simp only [heap_len]))).mono ?_; rintro e w2 ⟨rfl, hb2⟩; have HB2 := Lib.hid hb2; have hz := HZ.out w2 (((Below.refl _ _).alloc (Nat.le_refl _) _).trans (hb2.mono (by simp only [heap_len]; omega))); have HZ2 := Lib.hid hz; clear hz hb2)
    | (refine wpl_store 28 ?_; intro ee he; refine wpList_store_row he _ _ _ ee (W.heap.size + 1) (nodeV noneN) rfl rfl 28 (nodeV ⟨[], false, [], 0⟩) HZ2.out (node_size _) rfl (node_one _) ?_))
  refine bodyPost_ret (res_cell_tmp rfl rfl (row_same HZ2.out) (by kernel_rfl) (node_size _)) rfl ?_
  refine ⟨rfl, below_row ?_ _ _ (by omega)⟩
  exact ((((Below.refl _ _).alloc (Nat.le_refl _) _).alloc (by simp only [heap_len]; omega) _).alloc (by simp only [heap_len]; omega) _).trans (HB2.out.mono (by simp only [heap_len]; omega))
/-- What List fails with. -/
theorem list_fail (ns : List NodeD) (hr : RiseS ns) (hlen : ns.length ≤ 1000000) (p : List UInt8) (hpl : p.length ≤ 1000000) (he : findE ns p ≠ 0) (v : Value) (nx : Int) (W : World) (hN : NodesV W v ns) :
    Calls Tryz.prog 24 #[.agg (keepV v nx), .string (mkB p)] W fun e w' => e = .returned (.tuple #[.slice none 0 0, .int .i64 (findE ns p)]) ∧ Below W.heap.size W w' := by
  obtain ⟨q, c, rfl, hN0⟩ := hN
  have hN : NodesV W (.slice q ns.length c) ns := ⟨q, c, rfl, hN0⟩
  have HFI : Hid (∀ W' : World, Below W.heap.size W W' → Calls Tryz.prog 9 #[.agg (keepV (.slice q ns.length c) nx), .string (mkB p)] W' fun e w' => e = .returned (.tuple #[.agg (nodeV noneN), .int .i64 (findE ns p)]) ∧ Below W'.heap.size W' w') := Lib.hid (fun W' hb => findT_fail ns hr hlen p hpl he _ nx W' (hN.below hb))
  clear hN hN0 hr hlen hpl
  generalize findE ns p = fe at HFI he ⊢
  have hfe : ¬ (fe = 0) := he
  go_enter Tryz.func24, Tryz.ntmps24
  go_wp2_with (go_at_call 9; refine (HFI.out _ ((Below.refl _ _).alloc (Nat.le_refl _) _)).mono ?_; rintro e w1 ⟨rfl, hb1⟩; have HB1 := Lib.hid hb1; clear hb1)
  go_ret2
  have := ((Below.refl W.heap.size W).alloc (Nat.le_refl _) (.cells (keepV (.slice q ns.length c) nx) 24)).trans (HB1.out.mono (by simp only [heap_len]; omega))
  exact ⟨rfl, this.alloc this.size _⟩
theorem list_file (ns : List NodeD) (hr : RiseS ns) (hlen : ns.length ≤ 1000000) (p : List UInt8) (hp : pathB p = true) (k : Nat) (hk2 : k < ns.length) (hkp : ns[k].path = p) (hkd : ns[k].dir = false) (v : Value) (nx : Int) (W : World) (hN : NodesV W v ns) :
    Calls Tryz.prog 24 #[.agg (keepV v nx), .string (mkB p)] W fun e w' => e = .returned (.tuple #[.slice none 0 0, .int .i64 20]) ∧ Below W.heap.size W w' := by
  obtain ⟨q, c, rfl, hN0⟩ := hN
  have hN : NodesV W (.slice q ns.length c) ns := ⟨q, c, rfl, hN0⟩
  have hpl := path_len hp
  have HFI : Hid (∀ W' : World, Below W.heap.size W W' → Calls Tryz.prog 9 #[.agg (keepV (.slice q ns.length c) nx), .string (mkB p)] W' fun e w' => e = .returned (.tuple #[.agg (nodeV ns[k]), .int .i64 0]) ∧ Below W'.heap.size W' w') := Lib.hid (fun W' hb => findT_hit ns hr hlen p hp (by omega) k hk2 hkp _ nx W' (hN.below hb))
  clear hN hN0 hr hlen hp hpl hkp
  go_enter Tryz.func24, Tryz.ntmps24
  go_wp2_with (go_at_call 9; refine (HFI.out _ ((Below.refl _ _).alloc (Nat.le_refl _) _)).mono ?_; rintro e w1 ⟨rfl, hb1⟩; have HB1 := Lib.hid hb1; clear hb1)
  go_ret2
  have := ((Below.refl W.heap.size W).alloc (Nat.le_refl _) (.cells (keepV (.slice q ns.length c) nx) 24)).trans (HB1.out.mono (by simp only [heap_len]; omega))
  exact ⟨rfl, this.alloc this.size _⟩
end Go.Proofs.YtlpgandflkabcaaGreatDoor
