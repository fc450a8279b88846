/-
  tree.Make, whatever the path.
-/
import Derived.Test.YtlpgandflkabcaaGreatDoorFTtA
import Derived.Test.YtlpgandflkabcaaGreatDoorFTrR
namespace Go.Proofs.YtlpgandflkabcaaGreatDoor
open Go Go.RowKit Go.Shelf
set_option linter.unusedVariables false
set_option linter.unusedSimpArgs false

theorem kept3 {W w' : World} {a b c : Array Value} {s t u : TypeId} (h : Below (W.heap.size + 3) (((W.alloc (.cells a s)).alloc (.cells b t)).alloc (.cells c u)) w') :
    Below W.heap.size W w' ∧ w'.heap[W.heap.size]? = some (.cells a s) ∧ w'.heap[W.heap.size + 1]? = some (.cells b t) ∧ w'.heap[W.heap.size + 1 + 1]? = some (.cells c u) := by
  refine ⟨?_, ?_, ?_, ?_⟩
  · exact ((((Below.refl _ _).alloc (Nat.le_refl _) _).alloc (by simp only [heap_len]; omega) _).alloc (by simp only [heap_len]; omega) _).trans (h.mono (by omega))
  · rw [h.block _ (by omega), heap_old _ _ _ (by simp only [heap_len]; omega), heap_old _ _ _ (by rw [heap_len]; omega)]; exact heap_new _ _ _ rfl
  · rw [h.block _ (by omega), heap_old _ _ _ (by simp only [heap_len]; omega)]; exact heap_new _ _ _ (by simp only [heap_len])
  · rw [h.block _ (by omega)]; exact heap_new _ _ _ (by simp only [heap_len])
def makeE (ns : List NodeD) (nx : Int) (p : List UInt8) : Int :=
  if pathB p = true then (if hasS ns p = true then 17 else if parentE ns p = 0 then (if 40 ≤ ns.length ∨ 1048576 ≤ nx then 28 else 0) else parentE ns p) else 22
def makeL (ns : List NodeD) (nx : Int) (p : List UInt8) (dir : Bool) : List NodeD := if makeE ns nx p = 0 then withN ns ⟨p, dir, [], nx⟩ else ns
theorem parentE_zero {ns : List NodeD} (hr : RiseS ns) {p : List UInt8} (h : parentE ns p = 0) : ∃ k, ∃ hk : k < ns.length, ns[k].path = dirP p ∧ ns[k].dir = true := by
  unfold parentE at h
  split at h
  · rename_i h0
    obtain ⟨hp, k, hk, hkp, hl⟩ := findE_zero hr h0
    rw [foundN_at hr h0 hk hkp] at h
    split at h
    · rename_i hd; exact ⟨k, hk, hkp, hd⟩
    · cases h
  · rename_i h0; exact absurd h h0
set_option maxRecDepth 100000 in
set_option maxHeartbeats 8000000 in
theorem make_bad (ns : List NodeD) (hr : RiseS ns) (hlen : ns.length ≤ 1000000) (p : List UInt8) (hpl : p.length ≤ 1000000) (dir : Bool) (v : Value) (nx : Int) (W : World) (hN : NodesV W v ns) (hbad : makeE ns nx p ≠ 0) :
    Calls Tryz.prog 10 #[.agg (keepV v nx), .string (mkB p), .bool dir] W fun e w' => e = .returned (.tuple #[.agg (keepV v nx), .int .i64 (makeE ns nx p)]) ∧ Below W.heap.size W w' := by
  obtain ⟨q, c, rfl, hN0⟩ := hN
  have hN : NodesV W (.slice q ns.length c) ns := ⟨q, c, rfl, hN0⟩
  clear hN0
  have HP := Lib.hid (fun w => isPath_any p w hpl)
  have HAT : Hid (∀ (kb : Nat) (W' : World), Below W.heap.size W W' → W'.heap[kb]? = some (.cells (keepV (.slice q ns.length c) nx) 54) → Calls Tryz.prog 27 #[.pointer (some ⟨kb, 0, none⟩), .string (mkB p)] W' fun e w' => e = .returned (.tuple #[.int .i64 (lowS ns p : Nat), .bool (hasS ns p)]) ∧ Below W'.heap.size W' w') := Lib.hid (fun kb W' hb hk => at_any ns hr hlen p kb _ _ nx W' hk (hN.below hb))
  have HME : Hid (makeE ns nx p = if pathB p = true then (if hasS ns p = true then 17 else if parentE ns p = 0 then (if 40 ≤ ns.length ∨ 1048576 ≤ nx then 28 else 0) else parentE ns p) else 22) := Lib.hid rfl
  generalize makeE ns nx p = me at HME hbad ⊢
  cases hp : pathB p
  · have HPB := Lib.hid hp
    obtain rfl : me = 22 := by rw [HME.out, hp]; rfl
    clear hN hr hlen hpl HME hp hbad
    go_enter Tryz.func10, Tryz.ntmps10
    go_upto_region 2 with fail
    have HF : Hid (∀ w', Below (W.heap.size + 3) (((W.alloc (.cells (keepV (.slice q ns.length c) nx) 24)).alloc (.cells (keepV (.slice none 0 0) 0) 24)).alloc (.cells (keepV (.slice q ns.length c) nx) 54)) w' → Below W.heap.size W w' ∧ w'.heap[W.heap.size]? = some (.cells (keepV (.slice q ns.length c) nx) 24) ∧ w'.heap[W.heap.size + 1]? = some (.cells (keepV (.slice none 0 0) 0) 24) ∧ w'.heap[W.heap.size + 1 + 1]? = some (.cells (keepV (.slice q ns.length c) nx) 54)) := Lib.hid (fun w' h => kept3 h)
    have HS0 : Hid ((((W.alloc (.cells (keepV (.slice q ns.length c) nx) 24)).alloc (.cells (keepV (.slice none 0 0) 0) 24)).alloc (.cells (keepV (.slice q ns.length c) nx) 54)).heap.size = W.heap.size + 3) := Lib.hid (by simp only [heap_len])
    generalize hK : (((W.alloc (.cells (keepV (.slice q ns.length c) nx) 24)).alloc (.cells (keepV (.slice none 0 0) 0) 24)).alloc (.cells (keepV (.slice q ns.length c) nx) 54)) = K0 at HF HS0 ⊢
    have s0 := cell_at (o := 0) (HF.out K0 (Below.refl _ _)).2.1 rfl
    have s1 := cell_at (o := 1) (HF.out K0 (Below.refl _ _)).2.1 rfl
    have HZ0 := Lib.hid (HF.out K0 (Below.refl _ _)).2.2.1
    clear hK
    go_wp2_with (first
      | (go_at_call 26; refine (HP.out _).mono ?_; rintro e w1 ⟨rfl, hb1⟩; rw [HPB.out]; have HB1 : Hid (Below (W.heap.size + 3) K0 w1) := Lib.hid (hb1.mono (by rw [HS0.out]; exact Nat.le_refl _)); have t10 := cell_at (o := 0) (HF.out _ HB1.out).2.1 rfl; have t11 := cell_at (o := 1) (HF.out _ HB1.out).2.1 rfl; have HZ1 := Lib.hid (HF.out _ HB1.out).2.2.1; clear hb1)
      | (refine wpl_store 24 ?_; intro ee he; refine wpList_store_row he _ _ _ ee (W.heap.size + 1) (keepV (.slice q ns.length c) nx) rfl rfl 24 (keepV (.slice none 0 0) 0) HZ1.out (tree_size _ _) rfl (tree_one _) ?_))
    refine bodyPost_ret (res_cell_tmp rfl rfl (row_same HZ1.out) (by kernel_rfl) (tree_size _ _)) rfl ?_
    exact ⟨rfl, below_row (HF.out _ HB1.out).1 _ _ (by omega)⟩
  · have HPB := Lib.hid hp
    have HPA : Hid (∀ (kb : Nat) (W' : World), Below W.heap.size W W' → W'.heap[kb]? = some (.cells (keepV (.slice q ns.length c) nx) 54) → Calls Tryz.prog 28 #[.pointer (some ⟨kb, 0, none⟩), .string (mkB p)] W' fun e w' => e = .returned (.int .i64 (parentE ns p)) ∧ Below W'.heap.size W' w') := Lib.hid (fun kb W' hb hk => parent_any ns hr hlen p hp kb _ _ nx W' hk (hN.below hb))
    cases hh : hasS ns p
    · rw [hh] at HAT
      by_cases hpe : parentE ns p = 0
      · rw [hpe] at HPA
        by_cases hl : 40 ≤ ns.length
        · have hli : (40 : Int) ≤ (ns.length : Int) := by omega
          obtain rfl : me = 28 := by rw [HME.out, if_pos hp, hh, if_neg (by decide), if_pos hpe, if_pos (.inl hl)]
          clear hN hr hlen hpl HME hp hbad hh hpe hl
          go_enter Tryz.func10, Tryz.ntmps10
          go_upto_region 2 with fail
          have HF : Hid (∀ w', Below (W.heap.size + 3) (((W.alloc (.cells (keepV (.slice q ns.length c) nx) 24)).alloc (.cells (keepV (.slice none 0 0) 0) 24)).alloc (.cells (keepV (.slice q ns.length c) nx) 54)) w' → Below W.heap.size W w' ∧ w'.heap[W.heap.size]? = some (.cells (keepV (.slice q ns.length c) nx) 24) ∧ w'.heap[W.heap.size + 1]? = some (.cells (keepV (.slice none 0 0) 0) 24) ∧ w'.heap[W.heap.size + 1 + 1]? = some (.cells (keepV (.slice q ns.length c) nx) 54)) := Lib.hid (fun w' h => kept3 h)
          have HS0 : Hid ((((W.alloc (.cells (keepV (.slice q ns.length c) nx) 24)).alloc (.cells (keepV (.slice none 0 0) 0) 24)).alloc (.cells (keepV (.slice q ns.length c) nx) 54)).heap.size = W.heap.size + 3) := Lib.hid (by simp only [heap_len])
          generalize hK : (((W.alloc (.cells (keepV (.slice q ns.length c) nx) 24)).alloc (.cells (keepV (.slice none 0 0) 0) 24)).alloc (.cells (keepV (.slice q ns.length c) nx) 54)) = K0 at HF HS0 ⊢
          have s0 := cell_at (o := 0) (HF.out K0 (Below.refl _ _)).2.1 rfl
          have s1 := cell_at (o := 1) (HF.out K0 (Below.refl _ _)).2.1 rfl
          have HZ0 := Lib.hid (HF.out K0 (Below.refl _ _)).2.2.1
          clear hK
          go_wp2_with (first
            | (go_at_call 26; refine (HP.out _).mono ?_; rintro e w1 ⟨rfl, hb1⟩; rw [HPB.out]; have HB1 : Hid (Below (W.heap.size + 3) K0 w1) := Lib.hid (hb1.mono (by rw [HS0.out]; exact Nat.le_refl _)); have t10 := cell_at (o := 0) (HF.out _ HB1.out).2.1 rfl; have t11 := cell_at (o := 1) (HF.out _ HB1.out).2.1 rfl; have HZ1 := Lib.hid (HF.out _ HB1.out).2.2.1; clear hb1)
            | (go_at_call 27; refine (HAT.out _ _ (HF.out _ HB1.out).1 (HF.out _ HB1.out).2.2.2).mono ?_; rintro e w2 ⟨rfl, hb2⟩; have HB2 : Hid (Below (W.heap.size + 3) K0 w2) := Lib.hid (HB1.out.trans (hb2.mono (by have := HB1.out.size; have := HS0.out; omega))); have t20 := cell_at (o := 0) (HF.out _ HB2.out).2.1 rfl; have t21 := cell_at (o := 1) (HF.out _ HB2.out).2.1 rfl; have HZ2 := Lib.hid (HF.out _ HB2.out).2.2.1; clear hb2)
            | (go_at_call 28; refine (HPA.out _ _ (HF.out _ HB2.out).1 (HF.out _ HB2.out).2.2.2).mono ?_; rintro e w3 ⟨rfl, hb3⟩; have HB3 : Hid (Below (W.heap.size + 3) K0 w3) := Lib.hid (HB2.out.trans (hb3.mono (by have := HB2.out.size; have := HS0.out; omega))); have t30 := cell_at (o := 0) (HF.out _ HB3.out).2.1 rfl; have t31 := cell_at (o := 1) (HF.out _ HB3.out).2.1 rfl; have HZ3 := Lib.hid (HF.out _ HB3.out).2.2.1; clear hb3)
            | (refine wpl_store 24 ?_; intro ee he; refine wpList_store_row he _ _ _ ee (W.heap.size + 1) (keepV (.slice q ns.length c) nx) rfl rfl 24 (keepV (.slice none 0 0) 0) HZ3.out (tree_size _ _) rfl (tree_one _) ?_))
          refine bodyPost_ret (res_cell_tmp rfl rfl (row_same HZ3.out) (by kernel_rfl) (tree_size _ _)) rfl ?_
          exact ⟨rfl, below_row (HF.out _ HB3.out).1 _ _ (by omega)⟩
        · have hli : ¬ (40 : Int) ≤ (ns.length : Int) := by omega
          by_cases hx : 1048576 ≤ nx
          · obtain rfl : me = 28 := by rw [HME.out, if_pos hp, hh, if_neg (by decide), if_pos hpe, if_pos (.inr hx)]
            clear hN hr hlen hpl HME hp hbad hh hpe hl
            go_enter Tryz.func10, Tryz.ntmps10
            go_upto_region 2 with fail
            have HF : Hid (∀ w', Below (W.heap.size + 3) (((W.alloc (.cells (keepV (.slice q ns.length c) nx) 24)).alloc (.cells (keepV (.slice none 0 0) 0) 24)).alloc (.cells (keepV (.slice q ns.length c) nx) 54)) w' → Below W.heap.size W w' ∧ w'.heap[W.heap.size]? = some (.cells (keepV (.slice q ns.length c) nx) 24) ∧ w'.heap[W.heap.size + 1]? = some (.cells (keepV (.slice none 0 0) 0) 24) ∧ w'.heap[W.heap.size + 1 + 1]? = some (.cells (keepV (.slice q ns.length c) nx) 54)) := Lib.hid (fun w' h => kept3 h)
            have HS0 : Hid ((((W.alloc (.cells (keepV (.slice q ns.length c) nx) 24)).alloc (.cells (keepV (.slice none 0 0) 0) 24)).alloc (.cells (keepV (.slice q ns.length c) nx) 54)).heap.size = W.heap.size + 3) := Lib.hid (by simp only [heap_len])
            generalize hK : (((W.alloc (.cells (keepV (.slice q ns.length c) nx) 24)).alloc (.cells (keepV (.slice none 0 0) 0) 24)).alloc (.cells (keepV (.slice q ns.length c) nx) 54)) = K0 at HF HS0 ⊢
            have s0 := cell_at (o := 0) (HF.out K0 (Below.refl _ _)).2.1 rfl
            have s1 := cell_at (o := 1) (HF.out K0 (Below.refl _ _)).2.1 rfl
            have HZ0 := Lib.hid (HF.out K0 (Below.refl _ _)).2.2.1
            clear hK
            go_wp2_with (first
              | (go_at_call 26; refine (HP.out _).mono ?_; rintro e w1 ⟨rfl, hb1⟩; rw [HPB.out]; have HB1 : Hid (Below (W.heap.size + 3) K0 w1) := Lib.hid (hb1.mono (by rw [HS0.out]; exact Nat.le_refl _)); have t10 := cell_at (o := 0) (HF.out _ HB1.out).2.1 rfl; have t11 := cell_at (o := 1) (HF.out _ HB1.out).2.1 rfl; have HZ1 := Lib.hid (HF.out _ HB1.out).2.2.1; clear hb1)
              | (go_at_call 27; refine (HAT.out _ _ (HF.out _ HB1.out).1 (HF.out _ HB1.out).2.2.2).mono ?_; rintro e w2 ⟨rfl, hb2⟩; have HB2 : Hid (Below (W.heap.size + 3) K0 w2) := Lib.hid (HB1.out.trans (hb2.mono (by have := HB1.out.size; have := HS0.out; omega))); have t20 := cell_at (o := 0) (HF.out _ HB2.out).2.1 rfl; have t21 := cell_at (o := 1) (HF.out _ HB2.out).2.1 rfl; have HZ2 := Lib.hid (HF.out _ HB2.out).2.2.1; clear hb2)
              | (go_at_call 28; refine (HPA.out _ _ (HF.out _ HB2.out).1 (HF.out _ HB2.out).2.2.2).mono ?_; rintro e w3 ⟨rfl, hb3⟩; have HB3 : Hid (Below (W.heap.size + 3) K0 w3) := Lib.hid (HB2.out.trans (hb3.mono (by have := HB2.out.size; have := HS0.out; omega))); have t30 := cell_at (o := 0) (HF.out _ HB3.out).2.1 rfl; have t31 := cell_at (o := 1) (HF.out _ HB3.out).2.1 rfl; have HZ3 := Lib.hid (HF.out _ HB3.out).2.2.1; clear hb3)
              | (refine wpl_store 24 ?_; intro ee he; refine wpList_store_row he _ _ _ ee (W.heap.size + 1) (keepV (.slice q ns.length c) nx) rfl rfl 24 (keepV (.slice none 0 0) 0) HZ3.out (tree_size _ _) rfl (tree_one _) ?_))
            refine bodyPost_ret (res_cell_tmp rfl rfl (row_same HZ3.out) (by kernel_rfl) (tree_size _ _)) rfl ?_
            exact ⟨rfl, below_row (HF.out _ HB3.out).1 _ _ (by omega)⟩
          · exact absurd (by rw [HME.out, if_pos hp, hh, if_neg (by decide), if_pos hpe, if_neg (fun h => h.elim hl hx)]) hbad
      · obtain rfl : me = parentE ns p := by rw [HME.out, if_pos hp, hh, if_neg (by decide), if_neg hpe]
        clear hN hr hlen hpl HME hp hbad hh
        generalize parentE ns p = pe at HPA hpe ⊢
        go_enter Tryz.func10, Tryz.ntmps10
        go_upto_region 2 with fail
        have HF : Hid (∀ w', Below (W.heap.size + 3) (((W.alloc (.cells (keepV (.slice q ns.length c) nx) 24)).alloc (.cells (keepV (.slice none 0 0) 0) 24)).alloc (.cells (keepV (.slice q ns.length c) nx) 54)) w' → Below W.heap.size W w' ∧ w'.heap[W.heap.size]? = some (.cells (keepV (.slice q ns.length c) nx) 24) ∧ w'.heap[W.heap.size + 1]? = some (.cells (keepV (.slice none 0 0) 0) 24) ∧ w'.heap[W.heap.size + 1 + 1]? = some (.cells (keepV (.slice q ns.length c) nx) 54)) := Lib.hid (fun w' h => kept3 h)
        have HS0 : Hid ((((W.alloc (.cells (keepV (.slice q ns.length c) nx) 24)).alloc (.cells (keepV (.slice none 0 0) 0) 24)).alloc (.cells (keepV (.slice q ns.length c) nx) 54)).heap.size = W.heap.size + 3) := Lib.hid (by simp only [heap_len])
        generalize hK : (((W.alloc (.cells (keepV (.slice q ns.length c) nx) 24)).alloc (.cells (keepV (.slice none 0 0) 0) 24)).alloc (.cells (keepV (.slice q ns.length c) nx) 54)) = K0 at HF HS0 ⊢
        have s0 := cell_at (o := 0) (HF.out K0 (Below.refl _ _)).2.1 rfl
        have s1 := cell_at (o := 1) (HF.out K0 (Below.refl _ _)).2.1 rfl
        have HZ0 := Lib.hid (HF.out K0 (Below.refl _ _)).2.2.1
        clear hK
        go_wp2_with (first
          | (go_at_call 26; refine (HP.out _).mono ?_; rintro e w1 ⟨rfl, hb1⟩; rw [HPB.out]; have HB1 : Hid (Below (W.heap.size + 3) K0 w1) := Lib.hid (hb1.mono (by rw [HS0.out]; exact Nat.le_refl _)); have t10 := cell_at (o := 0) (HF.out _ HB1.out).2.1 rfl; have t11 := cell_at (o := 1) (HF.out _ HB1.out).2.1 rfl; have HZ1 := Lib.hid (HF.out _ HB1.out).2.2.1; clear hb1)
          | (go_at_call 27; refine (HAT.out _ _ (HF.out _ HB1.out).1 (HF.out _ HB1.out).2.2.2).mono ?_; rintro e w2 ⟨rfl, hb2⟩; have HB2 : Hid (Below (W.heap.size + 3) K0 w2) := Lib.hid (HB1.out.trans (hb2.mono (by have := HB1.out.size; have := HS0.out; omega))); have t20 := cell_at (o := 0) (HF.out _ HB2.out).2.1 rfl; have t21 := cell_at (o := 1) (HF.out _ HB2.out).2.1 rfl; have HZ2 := Lib.hid (HF.out _ HB2.out).2.2.1; clear hb2)
          | (go_at_call 28; refine (HPA.out _ _ (HF.out _ HB2.out).1 (HF.out _ HB2.out).2.2.2).mono ?_; rintro e w3 ⟨rfl, hb3⟩; have HB3 : Hid (Below (W.heap.size + 3) K0 w3) := Lib.hid (HB2.out.trans (hb3.mono (by have := HB2.out.size; have := HS0.out; omega))); have t30 := cell_at (o := 0) (HF.out _ HB3.out).2.1 rfl; have t31 := cell_at (o := 1) (HF.out _ HB3.out).2.1 rfl; have HZ3 := Lib.hid (HF.out _ HB3.out).2.2.1; clear hb3)
          | (refine wpl_store 24 ?_; intro ee he; refine wpList_store_row he _ _ _ ee (W.heap.size + 1) (keepV (.slice q ns.length c) nx) rfl rfl 24 (keepV (.slice none 0 0) 0) HZ3.out (tree_size _ _) rfl (tree_one _) ?_))
        refine bodyPost_ret (res_cell_tmp rfl rfl (row_same HZ3.out) (by kernel_rfl) (tree_size _ _)) rfl ?_
        exact ⟨rfl, below_row (HF.out _ HB3.out).1 _ _ (by omega)⟩
    · rw [hh] at HAT
      obtain rfl : me = 17 := by rw [HME.out, if_pos hp, hh]; rfl
      clear hN hr hlen hpl HME hp hbad hh
      go_enter Tryz.func10, Tryz.ntmps10
      go_upto_region 2 with fail
      have HF : Hid (∀ w', Below (W.heap.size + 3) (((W.alloc (.cells (keepV (.slice q ns.length c) nx) 24)).alloc (.cells (keepV (.slice none 0 0) 0) 24)).alloc (.cells (keepV (.slice q ns.length c) nx) 54)) w' → Below W.heap.size W w' ∧ w'.heap[W.heap.size]? = some (.cells (keepV (.slice q ns.length c) nx) 24) ∧ w'.heap[W.heap.size + 1]? = some (.cells (keepV (.slice none 0 0) 0) 24) ∧ w'.heap[W.heap.size + 1 + 1]? = some (.cells (keepV (.slice q ns.length c) nx) 54)) := Lib.hid (fun w' h => kept3 h)
      have HS0 : Hid ((((W.alloc (.cells (keepV (.slice q ns.length c) nx) 24)).alloc (.cells (keepV (.slice none 0 0) 0) 24)).alloc (.cells (keepV (.slice q ns.length c) nx) 54)).heap.size = W.heap.size + 3) := Lib.hid (by simp only [heap_len])
      generalize hK : (((W.alloc (.cells (keepV (.slice q ns.length c) nx) 24)).alloc (.cells (keepV (.slice none 0 0) 0) 24)).alloc (.cells (keepV (.slice q ns.length c) nx) 54)) = K0 at HF HS0 ⊢
      have s0 := cell_at (o := 0) (HF.out K0 (Below.refl _ _)).2.1 rfl
      have s1 := cell_at (o := 1) (HF.out K0 (Below.refl _ _)).2.1 rfl
      have HZ0 := Lib.hid (HF.out K0 (Below.refl _ _)).2.2.1
      clear hK
      go_wp2_with (first
        | (go_at_call 26; refine (HP.out _).mono ?_; rintro e w1 ⟨rfl, hb1⟩; rw [HPB.out]; have HB1 : Hid (Below (W.heap.size + 3) K0 w1) := Lib.hid (hb1.mono (by rw [HS0.out]; exact Nat.le_refl _)); have t10 := cell_at (o := 0) (HF.out _ HB1.out).2.1 rfl; have t11 := cell_at (o := 1) (HF.out _ HB1.out).2.1 rfl; have HZ1 := Lib.hid (HF.out _ HB1.out).2.2.1; clear hb1)
        | (go_at_call 27; refine (HAT.out _ _ (HF.out _ HB1.out).1 (HF.out _ HB1.out).2.2.2).mono ?_; rintro e w2 ⟨rfl, hb2⟩; have HB2 : Hid (Below (W.heap.size + 3) K0 w2) := Lib.hid (HB1.out.trans (hb2.mono (by have := HB1.out.size; have := HS0.out; omega))); have t20 := cell_at (o := 0) (HF.out _ HB2.out).2.1 rfl; have t21 := cell_at (o := 1) (HF.out _ HB2.out).2.1 rfl; have HZ2 := Lib.hid (HF.out _ HB2.out).2.2.1; clear hb2)
        | (refine wpl_store 24 ?_; intro ee he; refine wpList_store_row he _ _ _ ee (W.heap.size + 1) (keepV (.slice q ns.length c) nx) rfl rfl 24 (keepV (.slice none 0 0) 0) HZ2.out (tree_size _ _) rfl (tree_one _) ?_))
      refine bodyPost_ret (res_cell_tmp rfl rfl (row_same HZ2.out) (by kernel_rfl) (tree_size _ _)) rfl ?_
      exact ⟨rfl, below_row (HF.out _ HB2.out).1 _ _ (by omega)⟩
theorem make_any (ns : List NodeD) (hr : RiseS ns) (hlen : ns.length ≤ 1000000) (p : List UInt8) (hpl : p.length ≤ 1000000) (dir : Bool) (v : Value) (nx : Int) (h0 : 0 ≤ nx) (W : World) (hN : NodesV W v ns) :
    Calls Tryz.prog 10 #[.agg (keepV v nx), .string (mkB p), .bool dir] W fun e w' => ∃ v', e = .returned (.tuple #[.agg (keepV v' (if makeE ns nx p = 0 then nx + 1 else nx)), .int .i64 (makeE ns nx p)]) ∧ NodesV w' v' (makeL ns nx p dir) ∧ Below W.heap.size W w' := by
  by_cases hbad : makeE ns nx p = 0
  · have hm := hbad
    unfold makeE at hm
    split at hm
    · rename_i hp
      split at hm
      · cases hm
      · rename_i hh
        split at hm
        · rename_i hpe
          split at hm
          · cases hm
          · rename_i hl
            obtain ⟨k, hk, hkp, hkd⟩ := parentE_zero hr hpe
            rw [makeL, if_pos hbad, hbad, if_pos rfl]
            exact (make_hit ns hr (by omega) p hp dir (by simpa using hh) k hk hkp hkd v nx h0 (by omega) W hN).mono (fun e w' ⟨v', h1, h2, h3⟩ => ⟨v', h1, nodesV_of_own h2, h3⟩)
        · rename_i hpe; exact absurd hm hpe
    · cases hm
  · rw [makeL, if_neg hbad, if_neg hbad]
    exact (make_bad ns hr hlen p hpl dir v nx W hN hbad).mono (fun e w' ⟨h1, h2⟩ => ⟨v, h1, hN.below h2, h2⟩)
end Go.Proofs.YtlpgandflkabcaaGreatDoor
