/-
  Texts in one: FTuD FTuE FTuF.
-/
import Derived.Test.YtlpgandflkabcaaGreatDoorFTvA
import Derived.Test.YtlpgandflkabcaaGreatDoorFTtB
import Derived.Test.YtlpgandflkabcaaGreatDoorFTtD
import Derived.Test.YtlpgandflkabcaaGreatDoorFTrG
import Derived.Test.YtlpgandflkabcaaGreatDoorFTtF
import Derived.Deep.RegionHeld
namespace Go.Proofs.YtlpgandflkabcaaGreatDoor
open Go Go.RowKit Go.Shelf
set_option linter.unusedVariables false
set_option linter.unusedSimpArgs false

theorem kept2 {W w' : World} {a b : Array Value} {s t : TypeId} (h : Below (W.heap.size + 2) ((W.alloc (.cells a s)).alloc (.cells b t)) w') :
    Below W.heap.size W w' ∧ w'.heap[W.heap.size]? = some (.cells a s) ∧ w'.heap[W.heap.size + 1]? = some (.cells b t) := by
  refine ⟨?_, ?_, ?_⟩
  · exact (((Below.refl _ _).alloc (Nat.le_refl _) _).alloc (by simp only [heap_len]; omega) _).trans (h.mono (by omega))
  · rw [h.block _ (by omega), heap_old _ _ _ (by simp only [heap_len]; omega)]; exact heap_new _ _ _ rfl
  · rw [h.block _ (by omega)]; exact heap_new _ _ _ (by simp only [heap_len])
set_option maxRecDepth 100000 in
set_option maxHeartbeats 8000000 in
theorem rmake_bad (ns : List NodeD) (hr : RiseS ns) (hlen : ns.length ≤ 900) (p : List UInt8) (hpl : p.length ≤ 1000000) (dir : Bool) (v : Value) (nx : Int) (W : World) (hN : NodesV W v ns) (hbad : makeE ns nx p ≠ 0) :
    Calls Tryz.prog 14 #[.agg (keepV v nx), .string (mkB p), .bool dir] W fun e w' => e = .returned (.tuple #[.agg (keepV v nx), .int .i64 (makeE ns nx p)]) ∧ Below W.heap.size W w' := by
  obtain ⟨q, c, rfl, hN0⟩ := hN
  have hN : NodesV W (.slice q ns.length c) ns := ⟨q, c, rfl, hN0⟩
  clear hN0
  have HP := Lib.hid (fun w => rpath_any p w hpl)
  have HPL : Hid (∀ (W' : World), Below W.heap.size W W' → Calls Tryz.prog 20 #[.agg (keepV (.slice q ns.length c) nx), .string (mkB p)] W' fun e w' => e = .returned (.int .i64 (placeS ns p)) ∧ Below W'.heap.size W' w') := Lib.hid (fun W' hb => place_any ns (by omega) p _ nx W' (hN.below hb))
  have HME : Hid (makeE ns nx p = if pathB p = true then (if hasS ns p = true then 17 else if parentE ns p = 0 then (if 40 ≤ ns.length ∨ 1048576 ≤ nx then 28 else 0) else parentE ns p) else 22) := Lib.hid rfl
  generalize makeE ns nx p = me at HME hbad ⊢
  cases hp : pathB p
  · have HPB := Lib.hid hp
    obtain rfl : me = 22 := by rw [HME.out, hp]; rfl
    clear hN hr hlen hpl HME hp hbad
    go_enter Tryz.func14, Tryz.ntmps14
    go_upto_region 1 with fail
    have HF : Hid (∀ w', Below (W.heap.size + 2) ((W.alloc (.cells (keepV (.slice q ns.length c) nx) 24)).alloc (.cells (keepV (.slice none 0 0) 0) 24)) w' → Below W.heap.size W w' ∧ w'.heap[W.heap.size]? = some (.cells (keepV (.slice q ns.length c) nx) 24) ∧ w'.heap[W.heap.size + 1]? = some (.cells (keepV (.slice none 0 0) 0) 24)) := Lib.hid (fun w' h => kept2 h)
    have HS0 : Hid (((W.alloc (.cells (keepV (.slice q ns.length c) nx) 24)).alloc (.cells (keepV (.slice none 0 0) 0) 24)).heap.size = W.heap.size + 2) := Lib.hid (by simp only [heap_len])
    generalize hK : ((W.alloc (.cells (keepV (.slice q ns.length c) nx) 24)).alloc (.cells (keepV (.slice none 0 0) 0) 24)) = K0 at HF HS0 ⊢
    have s0 := cell_at (o := 0) (HF.out K0 (Below.refl _ _)).2.1 rfl
    have s1 := cell_at (o := 1) (HF.out K0 (Below.refl _ _)).2.1 rfl
    have HZ0 := Lib.hid (HF.out K0 (Below.refl _ _)).2.2
    have HB0 : Hid (Below (W.heap.size + 2) K0 K0) := Lib.hid (Below.refl _ _)
    clear hK
    go_wp2_with (first
      | (go_at_call 19; refine (HP.out _).mono ?_; rintro e w1 ⟨rfl, hw1⟩; obtain rfl := hw1.symm; rw [HPB.out])
      | (refine wpl_store 24 ?_; intro ee he; refine wpList_store_row he _ _ _ ee (W.heap.size + 1) (keepV (.slice q ns.length c) nx) rfl rfl 24 (keepV (.slice none 0 0) 0) HZ0.out (tree_size _ _) rfl (tree_one _) ?_))
    refine bodyPost_ret (res_cell_tmp rfl rfl (row_same HZ0.out) (by kernel_rfl) (tree_size _ _)) rfl ?_
    exact ⟨rfl, below_row (HF.out _ HB0.out).1 _ _ (by omega)⟩
  · have HPB := Lib.hid hp
    have HPA : Hid (∀ (W' : World), Below W.heap.size W W' → Calls Tryz.prog 35 #[.agg (keepV (.slice q ns.length c) nx), .string (mkB p)] W' fun e w' => e = .returned (.int .i64 (parentE ns p)) ∧ Below W'.heap.size W' w') := Lib.hid (fun W' hb => rdir_any ns hr (by omega) p hp _ nx W' (hN.below hb))
    cases hh : hasS ns p
    · rw [placeS_none hh] at HPL
      by_cases hpe : parentE ns p = 0
      · rw [hpe] at HPA
        by_cases hl : 40 ≤ ns.length
        · have hli : (40 : Int) ≤ (ns.length : Int) := by omega
          obtain rfl : me = 28 := by rw [HME.out, if_pos hp, hh, if_neg (by decide), if_pos hpe, if_pos (.inl hl)]
          clear hN hr hlen hpl HME hp hbad hh hpe hl
          go_enter Tryz.func14, Tryz.ntmps14
          go_upto_region 1 with fail
          have HF : Hid (∀ w', Below (W.heap.size + 2) ((W.alloc (.cells (keepV (.slice q ns.length c) nx) 24)).alloc (.cells (keepV (.slice none 0 0) 0) 24)) w' → Below W.heap.size W w' ∧ w'.heap[W.heap.size]? = some (.cells (keepV (.slice q ns.length c) nx) 24) ∧ w'.heap[W.heap.size + 1]? = some (.cells (keepV (.slice none 0 0) 0) 24)) := Lib.hid (fun w' h => kept2 h)
          have HS0 : Hid (((W.alloc (.cells (keepV (.slice q ns.length c) nx) 24)).alloc (.cells (keepV (.slice none 0 0) 0) 24)).heap.size = W.heap.size + 2) := Lib.hid (by simp only [heap_len])
          generalize hK : ((W.alloc (.cells (keepV (.slice q ns.length c) nx) 24)).alloc (.cells (keepV (.slice none 0 0) 0) 24)) = K0 at HF HS0 ⊢
          have s0 := cell_at (o := 0) (HF.out K0 (Below.refl _ _)).2.1 rfl
          have s1 := cell_at (o := 1) (HF.out K0 (Below.refl _ _)).2.1 rfl
          have HZ0 := Lib.hid (HF.out K0 (Below.refl _ _)).2.2
          have HB0 : Hid (Below (W.heap.size + 2) K0 K0) := Lib.hid (Below.refl _ _)
          clear hK
          go_wp2_with (first
            | (go_at_call 19; refine (HP.out _).mono ?_; rintro e w1 ⟨rfl, hw1⟩; obtain rfl := hw1.symm; rw [HPB.out])
            | (go_at_call 20; refine (HPL.out _ (HF.out _ HB0.out).1).mono ?_; rintro e w2 ⟨rfl, hb2⟩; have HB2 : Hid (Below (W.heap.size + 2) K0 w2) := Lib.hid (hb2.mono (by rw [HS0.out]; exact Nat.le_refl _)); have t20 := cell_at (o := 0) (HF.out _ HB2.out).2.1 rfl; have t21 := cell_at (o := 1) (HF.out _ HB2.out).2.1 rfl; have HZ2 := Lib.hid (HF.out _ HB2.out).2.2; clear hb2)
            | (go_at_call 35; refine (HPA.out _ (HF.out _ HB2.out).1).mono ?_; rintro e w3 ⟨rfl, hb3⟩; have HB3 : Hid (Below (W.heap.size + 2) K0 w3) := Lib.hid (HB2.out.trans (hb3.mono (by have := HB2.out.size; have := HS0.out; omega))); have t30 := cell_at (o := 0) (HF.out _ HB3.out).2.1 rfl; have t31 := cell_at (o := 1) (HF.out _ HB3.out).2.1 rfl; have HZ3 := Lib.hid (HF.out _ HB3.out).2.2; clear hb3)
            | (refine wpl_store 24 ?_; intro ee he; refine wpList_store_row he _ _ _ ee (W.heap.size + 1) (keepV (.slice q ns.length c) nx) rfl rfl 24 (keepV (.slice none 0 0) 0) HZ3.out (tree_size _ _) rfl (tree_one _) ?_))
          refine bodyPost_ret (res_cell_tmp rfl rfl (row_same HZ3.out) (by kernel_rfl) (tree_size _ _)) rfl ?_
          exact ⟨rfl, below_row (HF.out _ HB3.out).1 _ _ (by omega)⟩
        · have hli : ¬ (40 : Int) ≤ (ns.length : Int) := by omega
          by_cases hx : 1048576 ≤ nx
          · obtain rfl : me = 28 := by rw [HME.out, if_pos hp, hh, if_neg (by decide), if_pos hpe, if_pos (.inr hx)]
            clear hN hr hlen hpl HME hp hbad hh hpe hl
            go_enter Tryz.func14, Tryz.ntmps14
            go_upto_region 1 with fail
            have HF : Hid (∀ w', Below (W.heap.size + 2) ((W.alloc (.cells (keepV (.slice q ns.length c) nx) 24)).alloc (.cells (keepV (.slice none 0 0) 0) 24)) w' → Below W.heap.size W w' ∧ w'.heap[W.heap.size]? = some (.cells (keepV (.slice q ns.length c) nx) 24) ∧ w'.heap[W.heap.size + 1]? = some (.cells (keepV (.slice none 0 0) 0) 24)) := Lib.hid (fun w' h => kept2 h)
            have HS0 : Hid (((W.alloc (.cells (keepV (.slice q ns.length c) nx) 24)).alloc (.cells (keepV (.slice none 0 0) 0) 24)).heap.size = W.heap.size + 2) := Lib.hid (by simp only [heap_len])
            generalize hK : ((W.alloc (.cells (keepV (.slice q ns.length c) nx) 24)).alloc (.cells (keepV (.slice none 0 0) 0) 24)) = K0 at HF HS0 ⊢
            have s0 := cell_at (o := 0) (HF.out K0 (Below.refl _ _)).2.1 rfl
            have s1 := cell_at (o := 1) (HF.out K0 (Below.refl _ _)).2.1 rfl
            have HZ0 := Lib.hid (HF.out K0 (Below.refl _ _)).2.2
            have HB0 : Hid (Below (W.heap.size + 2) K0 K0) := Lib.hid (Below.refl _ _)
            clear hK
            go_wp2_with (first
              | (go_at_call 19; refine (HP.out _).mono ?_; rintro e w1 ⟨rfl, hw1⟩; obtain rfl := hw1.symm; rw [HPB.out])
              | (go_at_call 20; refine (HPL.out _ (HF.out _ HB0.out).1).mono ?_; rintro e w2 ⟨rfl, hb2⟩; have HB2 : Hid (Below (W.heap.size + 2) K0 w2) := Lib.hid (hb2.mono (by rw [HS0.out]; exact Nat.le_refl _)); have t20 := cell_at (o := 0) (HF.out _ HB2.out).2.1 rfl; have t21 := cell_at (o := 1) (HF.out _ HB2.out).2.1 rfl; have HZ2 := Lib.hid (HF.out _ HB2.out).2.2; clear hb2)
              | (go_at_call 35; refine (HPA.out _ (HF.out _ HB2.out).1).mono ?_; rintro e w3 ⟨rfl, hb3⟩; have HB3 : Hid (Below (W.heap.size + 2) K0 w3) := Lib.hid (HB2.out.trans (hb3.mono (by have := HB2.out.size; have := HS0.out; omega))); have t30 := cell_at (o := 0) (HF.out _ HB3.out).2.1 rfl; have t31 := cell_at (o := 1) (HF.out _ HB3.out).2.1 rfl; have HZ3 := Lib.hid (HF.out _ HB3.out).2.2; clear hb3)
              | (refine wpl_store 24 ?_; intro ee he; refine wpList_store_row he _ _ _ ee (W.heap.size + 1) (keepV (.slice q ns.length c) nx) rfl rfl 24 (keepV (.slice none 0 0) 0) HZ3.out (tree_size _ _) rfl (tree_one _) ?_))
            refine bodyPost_ret (res_cell_tmp rfl rfl (row_same HZ3.out) (by kernel_rfl) (tree_size _ _)) rfl ?_
            exact ⟨rfl, below_row (HF.out _ HB3.out).1 _ _ (by omega)⟩
          · exact absurd (by rw [HME.out, if_pos hp, hh, if_neg (by decide), if_pos hpe, if_neg (fun h => h.elim hl hx)]) hbad
      · obtain rfl : me = parentE ns p := by rw [HME.out, if_pos hp, hh, if_neg (by decide), if_neg hpe]
        clear hN hr hlen hpl HME hp hbad hh
        generalize parentE ns p = pe at HPA hpe ⊢
        go_enter Tryz.func14, Tryz.ntmps14
        go_upto_region 1 with fail
        have HF : Hid (∀ w', Below (W.heap.size + 2) ((W.alloc (.cells (keepV (.slice q ns.length c) nx) 24)).alloc (.cells (keepV (.slice none 0 0) 0) 24)) w' → Below W.heap.size W w' ∧ w'.heap[W.heap.size]? = some (.cells (keepV (.slice q ns.length c) nx) 24) ∧ w'.heap[W.heap.size + 1]? = some (.cells (keepV (.slice none 0 0) 0) 24)) := Lib.hid (fun w' h => kept2 h)
        have HS0 : Hid (((W.alloc (.cells (keepV (.slice q ns.length c) nx) 24)).alloc (.cells (keepV (.slice none 0 0) 0) 24)).heap.size = W.heap.size + 2) := Lib.hid (by simp only [heap_len])
        generalize hK : ((W.alloc (.cells (keepV (.slice q ns.length c) nx) 24)).alloc (.cells (keepV (.slice none 0 0) 0) 24)) = K0 at HF HS0 ⊢
        have s0 := cell_at (o := 0) (HF.out K0 (Below.refl _ _)).2.1 rfl
        have s1 := cell_at (o := 1) (HF.out K0 (Below.refl _ _)).2.1 rfl
        have HZ0 := Lib.hid (HF.out K0 (Below.refl _ _)).2.2
        have HB0 : Hid (Below (W.heap.size + 2) K0 K0) := Lib.hid (Below.refl _ _)
        clear hK
        go_wp2_with (first
          | (go_at_call 19; refine (HP.out _).mono ?_; rintro e w1 ⟨rfl, hw1⟩; obtain rfl := hw1.symm; rw [HPB.out])
          | (go_at_call 20; refine (HPL.out _ (HF.out _ HB0.out).1).mono ?_; rintro e w2 ⟨rfl, hb2⟩; have HB2 : Hid (Below (W.heap.size + 2) K0 w2) := Lib.hid (hb2.mono (by rw [HS0.out]; exact Nat.le_refl _)); have t20 := cell_at (o := 0) (HF.out _ HB2.out).2.1 rfl; have t21 := cell_at (o := 1) (HF.out _ HB2.out).2.1 rfl; have HZ2 := Lib.hid (HF.out _ HB2.out).2.2; clear hb2)
          | (go_at_call 35; refine (HPA.out _ (HF.out _ HB2.out).1).mono ?_; rintro e w3 ⟨rfl, hb3⟩; have HB3 : Hid (Below (W.heap.size + 2) K0 w3) := Lib.hid (HB2.out.trans (hb3.mono (by have := HB2.out.size; have := HS0.out; omega))); have t30 := cell_at (o := 0) (HF.out _ HB3.out).2.1 rfl; have t31 := cell_at (o := 1) (HF.out _ HB3.out).2.1 rfl; have HZ3 := Lib.hid (HF.out _ HB3.out).2.2; clear hb3)
          | (refine wpl_store 24 ?_; intro ee he; refine wpList_store_row he _ _ _ ee (W.heap.size + 1) (keepV (.slice q ns.length c) nx) rfl rfl 24 (keepV (.slice none 0 0) 0) HZ3.out (tree_size _ _) rfl (tree_one _) ?_))
        refine bodyPost_ret (res_cell_tmp rfl rfl (row_same HZ3.out) (by kernel_rfl) (tree_size _ _)) rfl ?_
        exact ⟨rfl, below_row (HF.out _ HB3.out).1 _ _ (by omega)⟩
    · obtain ⟨k, hk, hpk, hkp⟩ := placeS_some hh
      rw [hpk] at HPL
      have hk0 : (0 : Int) ≤ (k : Int) := by omega
      obtain rfl : me = 17 := by rw [HME.out, if_pos hp, hh]; rfl
      clear hN hr hlen hpl HME hp hbad hh hpk hkp
      go_enter Tryz.func14, Tryz.ntmps14
      go_upto_region 1 with fail
      have HF : Hid (∀ w', Below (W.heap.size + 2) ((W.alloc (.cells (keepV (.slice q ns.length c) nx) 24)).alloc (.cells (keepV (.slice none 0 0) 0) 24)) w' → Below W.heap.size W w' ∧ w'.heap[W.heap.size]? = some (.cells (keepV (.slice q ns.length c) nx) 24) ∧ w'.heap[W.heap.size + 1]? = some (.cells (keepV (.slice none 0 0) 0) 24)) := Lib.hid (fun w' h => kept2 h)
      have HS0 : Hid (((W.alloc (.cells (keepV (.slice q ns.length c) nx) 24)).alloc (.cells (keepV (.slice none 0 0) 0) 24)).heap.size = W.heap.size + 2) := Lib.hid (by simp only [heap_len])
      generalize hK : ((W.alloc (.cells (keepV (.slice q ns.length c) nx) 24)).alloc (.cells (keepV (.slice none 0 0) 0) 24)) = K0 at HF HS0 ⊢
      have s0 := cell_at (o := 0) (HF.out K0 (Below.refl _ _)).2.1 rfl
      have s1 := cell_at (o := 1) (HF.out K0 (Below.refl _ _)).2.1 rfl
      have HZ0 := Lib.hid (HF.out K0 (Below.refl _ _)).2.2
      have HB0 : Hid (Below (W.heap.size + 2) K0 K0) := Lib.hid (Below.refl _ _)
      clear hK
      go_wp2_with (first
        | (go_at_call 19; refine (HP.out _).mono ?_; rintro e w1 ⟨rfl, hw1⟩; obtain rfl := hw1.symm; rw [HPB.out])
        | (go_at_call 20; refine (HPL.out _ (HF.out _ HB0.out).1).mono ?_; rintro e w2 ⟨rfl, hb2⟩; have HB2 : Hid (Below (W.heap.size + 2) K0 w2) := Lib.hid (hb2.mono (by rw [HS0.out]; exact Nat.le_refl _)); have t20 := cell_at (o := 0) (HF.out _ HB2.out).2.1 rfl; have t21 := cell_at (o := 1) (HF.out _ HB2.out).2.1 rfl; have HZ2 := Lib.hid (HF.out _ HB2.out).2.2; clear hb2)
        | (refine wpl_store 24 ?_; intro ee he; refine wpList_store_row he _ _ _ ee (W.heap.size + 1) (keepV (.slice q ns.length c) nx) rfl rfl 24 (keepV (.slice none 0 0) 0) HZ2.out (tree_size _ _) rfl (tree_one _) ?_))
      refine bodyPost_ret (res_cell_tmp rfl rfl (row_same HZ2.out) (by kernel_rfl) (tree_size _ _)) rfl ?_
      exact ⟨rfl, below_row (HF.out _ HB2.out).1 _ _ (by omega)⟩
set_option maxRecDepth 100000 in
set_option maxHeartbeats 8000000 in
theorem rmake_good (ns : List NodeD) (hr : RiseS ns) (hlen : ns.length ≤ 900) (p : List UInt8) (hpl : p.length ≤ 1000000) (dir : Bool) (v : Value) (nx : Int) (h0 : 0 ≤ nx) (W : World) (hN : NodesV W v ns) (hgood : makeE ns nx p = 0) :
    Calls Tryz.prog 14 #[.agg (keepV v nx), .string (mkB p), .bool dir] W fun e w' => ∃ v', e = .returned (.tuple #[.agg (keepV v' (nx + 1)), .int .i64 0]) ∧ NodesV w' v' (withN ns ⟨p, dir, [], nx⟩) ∧ Below W.heap.size W w' := by
  obtain ⟨q, c, rfl, hN0⟩ := hN
  have hN : NodesV W (.slice q ns.length c) ns := ⟨q, c, rfl, hN0⟩
  clear hN0
  have hg : pathB p = true ∧ hasS ns p = false ∧ parentE ns p = 0 ∧ ¬ 40 ≤ ns.length ∧ ¬ 1048576 ≤ nx := by
    unfold makeE at hgood
    split at hgood
    · rename_i hp
      split at hgood
      · cases hgood
      · rename_i hh
        split at hgood
        · rename_i hpe
          split at hgood
          · cases hgood
          · rename_i hc
            exact ⟨hp, by simpa using hh, hpe, fun h => hc (.inl h), fun h => hc (.inr h)⟩
        · rename_i hpe; exact absurd hgood hpe
    · cases hgood
  obtain ⟨hp, hh, hpe, hl, hx⟩ := hg
  have HP := Lib.hid (fun w => rpath_any p w hpl)
  have HPB := Lib.hid hp
  have HPL : Hid (∀ (W' : World), Below W.heap.size W W' → Calls Tryz.prog 20 #[.agg (keepV (.slice q ns.length c) nx), .string (mkB p)] W' fun e w' => e = .returned (.int .i64 (-1)) ∧ Below W'.heap.size W' w') := Lib.hid (fun W' hb => by
    have := place_any ns (by omega) p _ nx W' (hN.below hb)
    rw [placeS_none hh] at this
    exact this)
  have HPA : Hid (∀ (W' : World), Below W.heap.size W W' → Calls Tryz.prog 35 #[.agg (keepV (.slice q ns.length c) nx), .string (mkB p)] W' fun e w' => e = .returned (.int .i64 0) ∧ Below W'.heap.size W' w') := Lib.hid (fun W' hb => by
    have := rdir_any ns hr (by omega) p hp _ nx W' (hN.below hb)
    rw [hpe] at this
    exact this)
  have HWI : Hid (∀ (W' : World), Below W.heap.size W W' → Calls Tryz.prog 36 #[.slice q ns.length c, .agg (nodeV (⟨p, dir, [], nx⟩ : NodeD))] W' fun e w' => ∃ v', e = .returned v' ∧ w'.ownsRow W'.heap.size 28 4 v' (withN ns ⟨p, dir, [], nx⟩).length (nodeVs (withN ns ⟨p, dir, [], nx⟩)) ∧ Below W'.heap.size W' w') := Lib.hid (fun W' hb => rwith_any ns hr hlen (⟨p, dir, [], nx⟩ : NodeD) hh _ W' (hN.below hb))
  have hli : ¬ (40 : Int) ≤ (ns.length : Int) := by omega
  have hnx1 : nx < 1048576 := by omega
  have hwr : IntKind.i64.wrap (nx + 1) = nx + 1 := by simp [IntKind.wrap, IntKind.bits, IntKind.signed]; omega
  clear hN hr hlen hpl hgood hp hh hpe hl
  go_enter Tryz.func14, Tryz.ntmps14
  go_upto_region 1 with fail
  have HF : Hid (∀ w', Below (W.heap.size + 2) ((W.alloc (.cells (keepV (.slice q ns.length c) nx) 24)).alloc (.cells (keepV (.slice none 0 0) 0) 24)) w' → Below W.heap.size W w' ∧ w'.heap[W.heap.size]? = some (.cells (keepV (.slice q ns.length c) nx) 24) ∧ w'.heap[W.heap.size + 1]? = some (.cells (keepV (.slice none 0 0) 0) 24)) := Lib.hid (fun w' h => kept2 h)
  have HS0 : Hid (((W.alloc (.cells (keepV (.slice q ns.length c) nx) 24)).alloc (.cells (keepV (.slice none 0 0) 0) 24)).heap.size = W.heap.size + 2) := Lib.hid (by simp only [heap_len])
  generalize hK : ((W.alloc (.cells (keepV (.slice q ns.length c) nx) 24)).alloc (.cells (keepV (.slice none 0 0) 0) 24)) = K0 at HF HS0 ⊢
  have s0 := cell_at (o := 0) (HF.out K0 (Below.refl _ _)).2.1 rfl
  have s1 := cell_at (o := 1) (HF.out K0 (Below.refl _ _)).2.1 rfl
  have HZ0 := Lib.hid (HF.out K0 (Below.refl _ _)).2.2
  have HB0 : Hid (Below (W.heap.size + 2) K0 K0) := Lib.hid (Below.refl _ _)
  clear hK
  go_upto_region 10 with (first
      | (go_at_call 19; refine (HP.out _).mono ?_; rintro e w1 ⟨rfl, hw1⟩; obtain rfl := hw1.symm; rw [HPB.out])
      | (go_at_call 20; refine (HPL.out _ (HF.out _ HB0.out).1).mono ?_; rintro e w2 ⟨rfl, hb2⟩; have HB2 : Hid (Below (W.heap.size + 2) K0 w2) := Lib.hid (hb2.mono (by rw [HS0.out]; exact Nat.le_refl _)); have t20 := cell_at (o := 0) (HF.out _ HB2.out).2.1 rfl; have t21 := cell_at (o := 1) (HF.out _ HB2.out).2.1 rfl; have HZ2 := Lib.hid (HF.out _ HB2.out).2.2; clear hb2)
      | (go_at_call 35; refine (HPA.out _ (HF.out _ HB2.out).1).mono ?_; rintro e w3 ⟨rfl, hb3⟩; have HB3 : Hid (Below (W.heap.size + 2) K0 w3) := Lib.hid (HB2.out.trans (hb3.mono (by have := HB2.out.size; have := HS0.out; omega))); have t30 := cell_at (o := 0) (HF.out _ HB3.out).2.1 rfl; have t31 := cell_at (o := 1) (HF.out _ HB3.out).2.1 rfl; have HZ3 := Lib.hid (HF.out _ HB3.out).2.2; clear hb3))
  clear s0 s1 HZ0 t20 t21 HZ2 HPL HPA HP HPB
  have HB3' : Hid (Below (W.heap.size + 1) K0 w3) := Lib.hid (HB3.out.mono (by omega))
  have hw3 : W.heap.size + 2 ≤ w3.heap.size := by have := HB3.out.size; rw [HS0.out] at this; exact this
  have HMK : Hid (∀ w', Below (W.heap.size + 1) w3 w' → Below (W.heap.size + 1) w3 w' ∧ w'.cell? ⟨W.heap.size, 0, none⟩ = some (.slice q ns.length c) ∧ w'.cell? ⟨W.heap.size, 1, none⟩ = some (.int .i64 nx)) := Lib.hid (fun w' h => by
    have h2 := (h.block W.heap.size (by omega)).trans (HF.out _ HB3.out).2.1
    exact ⟨h, cell_at (o := 0) h2 rfl, cell_at (o := 1) h2 rfl⟩)
  have HWI2 : Hid (∀ w', Below (W.heap.size + 1) w3 w' → Calls Tryz.prog 36 #[.slice q ns.length c, .agg (nodeV (⟨p, dir, [], nx⟩ : NodeD))] w' fun e w2 => ∃ v', e = .returned v' ∧ w2.ownsRow w'.heap.size 28 4 v' (withN ns ⟨p, dir, [], nx⟩).length (nodeVs (withN ns ⟨p, dir, [], nx⟩)) ∧ Below w'.heap.size w' w2) := Lib.hid (fun w' h => HWI.out w' ((HF.out _ HB3.out).1.trans (h.mono (by omega))))
  have z0 := cell_at (o := 0) HZ3.out rfl
  have z1 := cell_at (o := 1) HZ3.out rfl
  have zf : ∀ o, w3.frozen? ⟨W.heap.size + 1, o, none⟩ = false := fun o => free_at HZ3.out
  obtain ⟨y, hy⟩ : ∃ y : NodeD, y = ⟨p, dir, [], nx⟩ := ⟨_, rfl⟩
  have HH : Hid (w3.heap[W.heap.size + 1]? = some (.cells (keepV (.slice none 0 0) 0) 24)) := HZ3
  go_region_held (fun w' => Below (W.heap.size + 1) w3 w' ∧ w'.cell? ⟨W.heap.size, 0, none⟩ = some (.slice q ns.length c) ∧ w'.cell? ⟨W.heap.size, 1, none⟩ = some (.int .i64 nx)) ((refine HMK.out _ ?_; (first | assumption | exact Below.trans (by assumption) (Below.mono (by assumption) (Below.size (by assumption))) | (refine below_realloc ?_ ?_ ?_; assumption; omega; omega) | ((repeat' (first | assumption | exact Below.refl _ _ | refine Below.drew ?_ | refine Below.setCell ?_ ?_ _ | refine Below.alloc ?_ ?_ _)); all_goals (first | assumption | omega | (simp only [heap_len]; done) | (simp only [heap_len]; omega) | (simp <;> omega))))))
    (first
      | (go_at_call 36; refine (HWI2.out _ (And.left (by assumption))).mono ?_; rintro e w4 ⟨v4, rfl, ho4, hb4⟩; obtain ⟨q4, c4, rfl⟩ := nodesV_slice (nodesV_of_own ho4); have hb4' := below_of_drew hb4; have s1 : Below (W.heap.size + 1) w3 w4 := hb4'.mono (by omega); have k4 := (hb4'.block (W.heap.size + 1) (by omega)).trans HH.out; have e0 := cell_at (o := 0) k4 rfl; have e1 := cell_at (o := 1) k4 rfl; have ef : ∀ o, w4.frozen? ⟨W.heap.size + 1, o, none⟩ = false := fun o => free_at k4; have HO4 := Lib.hid ho4; have HK4 := Lib.hid k4; have HB4 := Lib.hid hb4'; clear ho4 hb4 hb4' k4))
  go_wp2
  have HW4 : Hid (Below W.heap.size W w4) := Lib.hid ((HF.out _ HB3.out).1.trans (HB4.out.mono (HF.out _ HB3.out).1.size))
  refine bodyPost_ret (res_cell_tmp rfl rfl (heap_set (o := 1) (heap_set (o := 0) HK4.out)) (by kernel_rfl) (tree_size _ _)) rfl ?_
  exact ⟨_, rfl, nodesV_of_own (ownsRow_above HO4.out (by rw [heap_set_len, heap_set_len]) (fun k hk => by
    have hk' : w3.heap.size ≤ k := hk
    rw [heap_set_ne _ _ _ _ _ (by omega), heap_set_ne _ _ _ _ _ (by omega)])), (HW4.out.setCell (p := ⟨W.heap.size + 1, 0, none⟩) (by show W.heap.size ≤ W.heap.size + 1; omega) _).setCell (p := ⟨W.heap.size + 1, 1, none⟩) (by show W.heap.size ≤ W.heap.size + 1; omega) _⟩
theorem rmake_any (ns : List NodeD) (hr : RiseS ns) (hlen : ns.length ≤ 900) (p : List UInt8) (hpl : p.length ≤ 1000000) (dir : Bool) (v : Value) (nx : Int) (h0 : 0 ≤ nx) (W : World) (hN : NodesV W v ns) :
    Calls Tryz.prog 14 #[.agg (keepV v nx), .string (mkB p), .bool dir] W fun e w' => ∃ v', e = .returned (.tuple #[.agg (keepV v' (if makeE ns nx p = 0 then nx + 1 else nx)), .int .i64 (makeE ns nx p)]) ∧ NodesV w' v' (makeL ns nx p dir) ∧ Below W.heap.size W w' := by
  by_cases hbad : makeE ns nx p = 0
  · rw [makeL, if_pos hbad, hbad, if_pos rfl]
    exact rmake_good ns hr hlen p hpl dir v nx h0 W hN hbad
  · rw [makeL, if_neg hbad, if_neg hbad]
    exact (rmake_bad ns hr hlen p hpl dir v nx W hN hbad).mono (fun e w' ⟨h1, h2⟩ => ⟨v, h1, hN.below h2, h2⟩)
end Go.Proofs.YtlpgandflkabcaaGreatDoor
namespace Go.Proofs.YtlpgandflkabcaaGreatDoor
open Go Go.RowKit Go.Shelf
set_option linter.unusedVariables false
set_option linter.unusedSimpArgs false

set_option maxRecDepth 100000 in
set_option maxHeartbeats 16000000 in
theorem rremove_any (ns : List NodeD) (hr : RiseS ns) (hpb : ∀ x ∈ ns, pathB x.path = true) (hlen : ns.length ≤ 1000) (p : List UInt8) (hpl : p.length ≤ 1000000) (dir : Bool) (v : Value) (nx : Int) (W : World) (hN : NodesV W v ns) :
    Calls Tryz.prog 15 #[.agg (keepV v nx), .string (mkB p), .bool dir] W fun e w' => ∃ v', e = .returned (.tuple #[.agg (keepV v' nx), .int .i64 (removeE ns p dir)]) ∧ NodesV w' v' (removeL ns p dir) ∧ Below W.heap.size W w' := by
  obtain ⟨q, c, rfl, hN0⟩ := hN
  have hN : NodesV W (.slice q ns.length c) ns := ⟨q, c, rfl, hN0⟩
  clear hN0
  have HN := Lib.hid hN
  have HFI : Hid (∀ (W' : World), Below W.heap.size W W' → Calls Tryz.prog 37 #[.agg (keepV (.slice q ns.length c) nx), .string (mkB p)] W' fun e w' => e = .returned (.tuple #[.agg (nodeV (foundN ns p)), .int .i64 (findE ns p)]) ∧ Below W'.heap.size W' w') := Lib.hid (fun W' hb => rfind_any ns hr hlen p hpl _ nx W' (hN.below hb))
  have HFL : Hid (pathB p = true → ∀ (W' : World), Below W.heap.size W W' → Calls Tryz.prog 38 #[.agg (keepV (.slice q ns.length c) nx), .string (mkB p)] W' fun e w' => e = .returned (.bool (filledN ns p)) ∧ Below W'.heap.size W' w') := Lib.hid (fun hp W' hb => rfilled_any ns hpb (by omega) p hp _ nx W' (hN.below hb))
  have HWO : Hid (∀ (W' : World), Below W.heap.size W W' → Calls Tryz.prog 39 #[.agg (keepV (.slice q ns.length c) nx), .string (mkB p)] W' fun e w' => ∃ v', e = .returned v' ∧ w'.ownsRow W'.heap.size 28 4 v' (dropN ns p).length (nodeVs (dropN ns p)) ∧ Below W'.heap.size W' w') := Lib.hid (fun W' hb => rwithout_any ns hlen p _ nx W' (hN.below hb))
  have HRE : Hid (removeE ns p dir = if findE ns p = 0 then (if (foundN ns p).dir = true ∧ dir = false then 21 else if (foundN ns p).dir = false ∧ dir = true then 20 else if p = [47] then 22 else if filledN ns p = true then 39 else 0) else findE ns p) := Lib.hid rfl
  have HRL : Hid (removeL ns p dir = if removeE ns p dir = 0 then dropN ns p else ns) := Lib.hid rfl
  have HPA : Hid (findE ns p = 0 → pathB p = true) := Lib.hid (fun h => (findE_zero hr h).1)
  have h47 : ((mkB p).toList == [47]) = (p == [47]) := by rw [mkB_toList]
  clear hN hr hlen hpl hpb
  generalize removeE ns p dir = re at HRE HRL ⊢
  generalize removeL ns p dir = rl at HRL ⊢
  generalize foundN ns p = x at HFI HRE
  by_cases hfe : findE ns p = 0
  · replace HFL := Lib.hid (HFL.out (HPA.out hfe))
    rw [hfe] at HFI
    replace HRE := Lib.hid (HRE.out.trans (if_pos hfe))
    clear HPA hfe
    cases hxd : x.dir <;> cases dir
    · replace HRE : Hid (re = if p = [47] then 22 else if filledN ns p = true then 39 else 0) := Lib.hid (by rw [HRE.out, hxd, if_neg (by decide), if_neg (by decide)])
      have HXV : Hid (nodeV x = #[.string (mkB x.path), .bool false, .string (mkB x.data), .int .i64 x.id]) := Lib.hid (by rw [nodeV, hxd])
      clear hxd
      cases h48 : (p == [47])
      · replace HRE := Lib.hid (HRE.out.trans (if_neg (beq_eq_false_iff_ne.1 h48)))
        rw [h48] at h47
        clear h48
        cases hfl : filledN ns p
        · obtain rfl : re = 0 := by rw [HRE.out, hfl]; rfl
          obtain rfl : rl = dropN ns p := by rw [HRL.out, if_pos rfl]
          rw [hfl] at HFL
          clear hfl HRE HRL
          go_enter Tryz.func15, Tryz.ntmps15
          go_upto_region 1 with fail
          have HF : Hid (∀ w', Below (W.heap.size + 2) ((W.alloc (.cells (keepV (.slice q ns.length c) nx) 24)).alloc (.cells (keepV (.slice none 0 0) 0) 24)) w' → Below W.heap.size W w' ∧ w'.heap[W.heap.size]? = some (.cells (keepV (.slice q ns.length c) nx) 24) ∧ w'.heap[W.heap.size + 1]? = some (.cells (keepV (.slice none 0 0) 0) 24)) := Lib.hid (fun w' h => kept2 h)
          have HS0 : Hid (((W.alloc (.cells (keepV (.slice q ns.length c) nx) 24)).alloc (.cells (keepV (.slice none 0 0) 0) 24)).heap.size = W.heap.size + 2) := Lib.hid (by simp only [heap_len])
          generalize hK : ((W.alloc (.cells (keepV (.slice q ns.length c) nx) 24)).alloc (.cells (keepV (.slice none 0 0) 0) 24)) = K0 at HF HS0 ⊢
          have s0 := cell_at (o := 0) (HF.out K0 (Below.refl _ _)).2.1 rfl
          have s1 := cell_at (o := 1) (HF.out K0 (Below.refl _ _)).2.1 rfl
          clear hK
          go_upto_region 2 with (go_at_call 37; refine (HFI.out _ (HF.out _ (Below.refl _ _)).1).mono ?_; rintro e w1 ⟨rfl, hb1⟩; rw [HXV.out]; have HB1 : Hid (Below (W.heap.size + 2) K0 w1) := Lib.hid (hb1.mono (by rw [HS0.out]; exact Nat.le_refl _)); clear hb1)
          clear s0 s1
          have HA : Hid (∀ o, Below (W.heap.size + 2) K0 (w1.alloc o)) := Lib.hid (fun o => HB1.out.alloc (by have := HB1.out.size; have := HS0.out; omega) _)
          have HAZ := Lib.hid (fun o => HF.out _ (HA.out o))
          have t0 := fun o => cell_at (o := 0) (HAZ.out o).2.1 rfl
          have t1 := fun o => cell_at (o := 1) (HAZ.out o).2.1 rfl
          have HZ := Lib.hid (HAZ.out (.cells (nodeV x) 28)).2.2
          rw [HXV.out] at HZ
          go_upto_region 12 with (go_at_call 38; refine (HFL.out _ (HAZ.out _).1).mono ?_; rintro e w2 ⟨rfl, hb2⟩; have HB2 : Hid (Below (W.heap.size + 2) K0 w2) := Lib.hid ((HA.out _).trans (hb2.mono (by have := HB1.out.size; have := HS0.out; simp only [heap_len]; omega))); have s0 := cell_at (o := 0) (HF.out _ HB2.out).2.1 rfl; have s1 := cell_at (o := 1) (HF.out _ HB2.out).2.1 rfl; have HZ2 := Lib.hid (HF.out _ HB2.out).2.2; clear hb2)
          clear t0 t1 HZ
          go_upto_region 13 with (go_at_call 39; refine (HWO.out _ (HF.out _ HB2.out).1).mono ?_; rintro e w3 ⟨v3, rfl, ho3, hb3⟩; obtain ⟨q3, c3, rfl⟩ := nodesV_slice (nodesV_of_own ho3); have hb3' : Below (W.heap.size + 2) K0 w3 := HB2.out.trans (hb3.mono (by have := HB2.out.size; have := HS0.out; omega)); have HT3 := Lib.hid (HF.out _ hb3').2.1; have HZ3 := Lib.hid (HF.out _ hb3').2.2; have HW3 := Lib.hid (HF.out _ hb3').1; have HO3 := Lib.hid ho3; have HL3 := Lib.hid hb3'; have k0 := cell_at (o := 0) HT3.out rfl; have k1 := cell_at (o := 1) HT3.out rfl; have kz : w3.frozen? ⟨W.heap.size, 0, none⟩ = false := free_at HT3.out; clear ho3 hb3 hb3')
          obtain ⟨W4, hW4⟩ : ∃ W4, W4 = w3.setCell ⟨W.heap.size, 0, none⟩ (.slice q3 (dropN ns p).length c3) := ⟨_, rfl⟩
          have HT4 : Hid (W4.heap[W.heap.size]? = some (.cells (keepV (.slice q3 (dropN ns p).length c3) nx) 24)) := Lib.hid (by rw [hW4]; exact heap_set (o := 0) HT3.out)
          have HZ4 : Hid (W4.heap[W.heap.size + 1]? = some (.cells (keepV (.slice none 0 0) 0) 24)) := Lib.hid (by rw [hW4, heap_set_ne _ _ _ _ _ (by omega)]; exact HZ3.out)
          have HW4 : Hid (Below W.heap.size W W4) := Lib.hid (by rw [hW4]; exact HW3.out.setCell (p := ⟨W.heap.size, 0, none⟩) (Nat.le_refl _) _)
          have hs2 : W.heap.size + 2 ≤ w2.heap.size := by have := HB2.out.size; rw [HS0.out] at this; exact this
          have HO4 : Hid (W4.ownsRow w2.heap.size 28 4 (.slice q3 (dropN ns p).length c3) (dropN ns p).length (nodeVs (dropN ns p))) := Lib.hid (by rw [hW4]; exact ownsRow_above HO3.out (heap_set_len _ _ _) (fun k hk => heap_set_ne _ _ _ _ _ (by omega)))
          rw [← hW4]
          clear hW4 k0 k1 kz s0 s1
          have k0 := cell_at (o := 0) HT4.out rfl
          have k1 := cell_at (o := 1) HT4.out rfl
          go_wp2_with (refine wpl_store 24 ?_; intro ee he; refine wpList_store_row he _ _ _ ee (W.heap.size + 1) (keepV (.slice q3 (dropN ns p).length c3) nx) rfl rfl 24 (keepV (.slice none 0 0) 0) HZ4.out (tree_size _ _) rfl (tree_one _) ?_)
          refine bodyPost_ret (res_cell_tmp rfl rfl (row_same HZ4.out) (by kernel_rfl) (tree_size _ _)) rfl ?_
          exact ⟨_, rfl, nodesV_of_own (ownsRow_above HO4.out (row_len _ _ _) (fun k hk => row_ne _ _ _ _ (by omega))), below_row HW4.out _ _ (by omega)⟩
        · obtain rfl : re = 39 := by rw [HRE.out, hfl]; rfl
          obtain rfl : ns = rl := by rw [HRL.out]; rfl
          rw [hfl] at HFL
          clear hfl HRE HRL HWO
          go_enter Tryz.func15, Tryz.ntmps15
          go_upto_region 1 with fail
          have HF : Hid (∀ w', Below (W.heap.size + 2) ((W.alloc (.cells (keepV (.slice q ns.length c) nx) 24)).alloc (.cells (keepV (.slice none 0 0) 0) 24)) w' → Below W.heap.size W w' ∧ w'.heap[W.heap.size]? = some (.cells (keepV (.slice q ns.length c) nx) 24) ∧ w'.heap[W.heap.size + 1]? = some (.cells (keepV (.slice none 0 0) 0) 24)) := Lib.hid (fun w' h => kept2 h)
          have HS0 : Hid (((W.alloc (.cells (keepV (.slice q ns.length c) nx) 24)).alloc (.cells (keepV (.slice none 0 0) 0) 24)).heap.size = W.heap.size + 2) := Lib.hid (by simp only [heap_len])
          generalize hK : ((W.alloc (.cells (keepV (.slice q ns.length c) nx) 24)).alloc (.cells (keepV (.slice none 0 0) 0) 24)) = K0 at HF HS0 ⊢
          have s0 := cell_at (o := 0) (HF.out K0 (Below.refl _ _)).2.1 rfl
          have s1 := cell_at (o := 1) (HF.out K0 (Below.refl _ _)).2.1 rfl
          clear hK
          go_upto_region 2 with (go_at_call 37; refine (HFI.out _ (HF.out _ (Below.refl _ _)).1).mono ?_; rintro e w1 ⟨rfl, hb1⟩; rw [HXV.out]; have HB1 : Hid (Below (W.heap.size + 2) K0 w1) := Lib.hid (hb1.mono (by rw [HS0.out]; exact Nat.le_refl _)); clear hb1)
          clear s0 s1
          have HA : Hid (∀ o, Below (W.heap.size + 2) K0 (w1.alloc o)) := Lib.hid (fun o => HB1.out.alloc (by have := HB1.out.size; have := HS0.out; omega) _)
          have HAZ := Lib.hid (fun o => HF.out _ (HA.out o))
          have t0 := fun o => cell_at (o := 0) (HAZ.out o).2.1 rfl
          have t1 := fun o => cell_at (o := 1) (HAZ.out o).2.1 rfl
          have HZ := Lib.hid (HAZ.out (.cells (nodeV x) 28)).2.2
          rw [HXV.out] at HZ
          go_wp2_with (first
            | (go_at_call 38; refine (HFL.out _ (HAZ.out _).1).mono ?_; rintro e w2 ⟨rfl, hb2⟩; have HB2 : Hid (Below (W.heap.size + 2) K0 w2) := Lib.hid ((HA.out _).trans (hb2.mono (by have := HB1.out.size; have := HS0.out; simp only [heap_len]; omega))); have s0 := cell_at (o := 0) (HF.out _ HB2.out).2.1 rfl; have s1 := cell_at (o := 1) (HF.out _ HB2.out).2.1 rfl; have HZ2 := Lib.hid (HF.out _ HB2.out).2.2; clear hb2)
            | (refine wpl_store 24 ?_; intro ee he; refine wpList_store_row he _ _ _ ee (W.heap.size + 1) (keepV (.slice q ns.length c) nx) rfl rfl 24 (keepV (.slice none 0 0) 0) HZ2.out (tree_size _ _) rfl (tree_one _) ?_))
          refine bodyPost_ret (res_cell_tmp rfl rfl (row_same HZ2.out) (by kernel_rfl) (tree_size _ _)) rfl ?_
          exact ⟨_, rfl, NodesV.below HN.out (below_row (HF.out _ HB2.out).1 _ _ (by omega)), below_row (HF.out _ HB2.out).1 _ _ (by omega)⟩
      · obtain rfl : re = 22 := by rw [HRE.out, if_pos (beq_iff_eq.1 h48)]
        obtain rfl : ns = rl := by rw [HRL.out]; rfl
        rw [h48] at h47
        clear h48 HRE HRL HWO HFL
        go_enter Tryz.func15, Tryz.ntmps15
        go_upto_region 1 with fail
        have HF : Hid (∀ w', Below (W.heap.size + 2) ((W.alloc (.cells (keepV (.slice q ns.length c) nx) 24)).alloc (.cells (keepV (.slice none 0 0) 0) 24)) w' → Below W.heap.size W w' ∧ w'.heap[W.heap.size]? = some (.cells (keepV (.slice q ns.length c) nx) 24) ∧ w'.heap[W.heap.size + 1]? = some (.cells (keepV (.slice none 0 0) 0) 24)) := Lib.hid (fun w' h => kept2 h)
        have HS0 : Hid (((W.alloc (.cells (keepV (.slice q ns.length c) nx) 24)).alloc (.cells (keepV (.slice none 0 0) 0) 24)).heap.size = W.heap.size + 2) := Lib.hid (by simp only [heap_len])
        generalize hK : ((W.alloc (.cells (keepV (.slice q ns.length c) nx) 24)).alloc (.cells (keepV (.slice none 0 0) 0) 24)) = K0 at HF HS0 ⊢
        have s0 := cell_at (o := 0) (HF.out K0 (Below.refl _ _)).2.1 rfl
        have s1 := cell_at (o := 1) (HF.out K0 (Below.refl _ _)).2.1 rfl
        clear hK
        go_upto_region 2 with (go_at_call 37; refine (HFI.out _ (HF.out _ (Below.refl _ _)).1).mono ?_; rintro e w1 ⟨rfl, hb1⟩; rw [HXV.out]; have HB1 : Hid (Below (W.heap.size + 2) K0 w1) := Lib.hid (hb1.mono (by rw [HS0.out]; exact Nat.le_refl _)); clear hb1)
        clear s0 s1
        have HA : Hid (∀ o, Below (W.heap.size + 2) K0 (w1.alloc o)) := Lib.hid (fun o => HB1.out.alloc (by have := HB1.out.size; have := HS0.out; omega) _)
        have HAZ := Lib.hid (fun o => HF.out _ (HA.out o))
        have t0 := fun o => cell_at (o := 0) (HAZ.out o).2.1 rfl
        have t1 := fun o => cell_at (o := 1) (HAZ.out o).2.1 rfl
        have HZ := Lib.hid (HAZ.out (.cells (nodeV x) 28)).2.2
        rw [HXV.out] at HZ
        go_wp2_with (refine wpl_store 24 ?_; intro ee he; refine wpList_store_row he _ _ _ ee (W.heap.size + 1) (keepV (.slice q ns.length c) nx) rfl rfl 24 (keepV (.slice none 0 0) 0) HZ.out (tree_size _ _) rfl (tree_one _) ?_)
        refine bodyPost_ret (res_cell_tmp rfl rfl (row_same HZ.out) (by kernel_rfl) (tree_size _ _)) rfl ?_
        exact ⟨_, rfl, NodesV.below HN.out (below_row (HAZ.out _).1 _ _ (by omega)), below_row (HAZ.out _).1 _ _ (by omega)⟩
    · obtain rfl : re = 20 := by rw [HRE.out, hxd]; rfl
      obtain rfl : ns = rl := by rw [HRL.out]; rfl
      have HXV : Hid (nodeV x = #[.string (mkB x.path), .bool false, .string (mkB x.data), .int .i64 x.id]) := Lib.hid (by rw [nodeV, hxd])
      clear hxd HRE HRL HWO HFL h47
      go_enter Tryz.func15, Tryz.ntmps15
      go_upto_region 1 with fail
      have HF : Hid (∀ w', Below (W.heap.size + 2) ((W.alloc (.cells (keepV (.slice q ns.length c) nx) 24)).alloc (.cells (keepV (.slice none 0 0) 0) 24)) w' → Below W.heap.size W w' ∧ w'.heap[W.heap.size]? = some (.cells (keepV (.slice q ns.length c) nx) 24) ∧ w'.heap[W.heap.size + 1]? = some (.cells (keepV (.slice none 0 0) 0) 24)) := Lib.hid (fun w' h => kept2 h)
      have HS0 : Hid (((W.alloc (.cells (keepV (.slice q ns.length c) nx) 24)).alloc (.cells (keepV (.slice none 0 0) 0) 24)).heap.size = W.heap.size + 2) := Lib.hid (by simp only [heap_len])
      generalize hK : ((W.alloc (.cells (keepV (.slice q ns.length c) nx) 24)).alloc (.cells (keepV (.slice none 0 0) 0) 24)) = K0 at HF HS0 ⊢
      have s0 := cell_at (o := 0) (HF.out K0 (Below.refl _ _)).2.1 rfl
      have s1 := cell_at (o := 1) (HF.out K0 (Below.refl _ _)).2.1 rfl
      clear hK
      go_upto_region 2 with (go_at_call 37; refine (HFI.out _ (HF.out _ (Below.refl _ _)).1).mono ?_; rintro e w1 ⟨rfl, hb1⟩; rw [HXV.out]; have HB1 : Hid (Below (W.heap.size + 2) K0 w1) := Lib.hid (hb1.mono (by rw [HS0.out]; exact Nat.le_refl _)); clear hb1)
      clear s0 s1
      have HA : Hid (∀ o, Below (W.heap.size + 2) K0 (w1.alloc o)) := Lib.hid (fun o => HB1.out.alloc (by have := HB1.out.size; have := HS0.out; omega) _)
      have HAZ := Lib.hid (fun o => HF.out _ (HA.out o))
      have t0 := fun o => cell_at (o := 0) (HAZ.out o).2.1 rfl
      have t1 := fun o => cell_at (o := 1) (HAZ.out o).2.1 rfl
      have HZ := Lib.hid (HAZ.out (.cells (nodeV x) 28)).2.2
      rw [HXV.out] at HZ
      go_wp2_with (refine wpl_store 24 ?_; intro ee he; refine wpList_store_row he _ _ _ ee (W.heap.size + 1) (keepV (.slice q ns.length c) nx) rfl rfl 24 (keepV (.slice none 0 0) 0) HZ.out (tree_size _ _) rfl (tree_one _) ?_)
      refine bodyPost_ret (res_cell_tmp rfl rfl (row_same HZ.out) (by kernel_rfl) (tree_size _ _)) rfl ?_
      exact ⟨_, rfl, NodesV.below HN.out (below_row (HAZ.out _).1 _ _ (by omega)), below_row (HAZ.out _).1 _ _ (by omega)⟩
    · obtain rfl : re = 21 := by rw [HRE.out, hxd]; rfl
      obtain rfl : ns = rl := by rw [HRL.out]; rfl
      have HXV : Hid (nodeV x = #[.string (mkB x.path), .bool true, .string (mkB x.data), .int .i64 x.id]) := Lib.hid (by rw [nodeV, hxd])
      clear hxd HRE HRL HWO HFL h47
      go_enter Tryz.func15, Tryz.ntmps15
      go_upto_region 1 with fail
      have HF : Hid (∀ w', Below (W.heap.size + 2) ((W.alloc (.cells (keepV (.slice q ns.length c) nx) 24)).alloc (.cells (keepV (.slice none 0 0) 0) 24)) w' → Below W.heap.size W w' ∧ w'.heap[W.heap.size]? = some (.cells (keepV (.slice q ns.length c) nx) 24) ∧ w'.heap[W.heap.size + 1]? = some (.cells (keepV (.slice none 0 0) 0) 24)) := Lib.hid (fun w' h => kept2 h)
      have HS0 : Hid (((W.alloc (.cells (keepV (.slice q ns.length c) nx) 24)).alloc (.cells (keepV (.slice none 0 0) 0) 24)).heap.size = W.heap.size + 2) := Lib.hid (by simp only [heap_len])
      generalize hK : ((W.alloc (.cells (keepV (.slice q ns.length c) nx) 24)).alloc (.cells (keepV (.slice none 0 0) 0) 24)) = K0 at HF HS0 ⊢
      have s0 := cell_at (o := 0) (HF.out K0 (Below.refl _ _)).2.1 rfl
      have s1 := cell_at (o := 1) (HF.out K0 (Below.refl _ _)).2.1 rfl
      clear hK
      go_upto_region 2 with (go_at_call 37; refine (HFI.out _ (HF.out _ (Below.refl _ _)).1).mono ?_; rintro e w1 ⟨rfl, hb1⟩; rw [HXV.out]; have HB1 : Hid (Below (W.heap.size + 2) K0 w1) := Lib.hid (hb1.mono (by rw [HS0.out]; exact Nat.le_refl _)); clear hb1)
      clear s0 s1
      have HA : Hid (∀ o, Below (W.heap.size + 2) K0 (w1.alloc o)) := Lib.hid (fun o => HB1.out.alloc (by have := HB1.out.size; have := HS0.out; omega) _)
      have HAZ := Lib.hid (fun o => HF.out _ (HA.out o))
      have t0 := fun o => cell_at (o := 0) (HAZ.out o).2.1 rfl
      have t1 := fun o => cell_at (o := 1) (HAZ.out o).2.1 rfl
      have HZ := Lib.hid (HAZ.out (.cells (nodeV x) 28)).2.2
      rw [HXV.out] at HZ
      go_wp2_with (refine wpl_store 24 ?_; intro ee he; refine wpList_store_row he _ _ _ ee (W.heap.size + 1) (keepV (.slice q ns.length c) nx) rfl rfl 24 (keepV (.slice none 0 0) 0) HZ.out (tree_size _ _) rfl (tree_one _) ?_)
      refine bodyPost_ret (res_cell_tmp rfl rfl (row_same HZ.out) (by kernel_rfl) (tree_size _ _)) rfl ?_
      exact ⟨_, rfl, NodesV.below HN.out (below_row (HAZ.out _).1 _ _ (by omega)), below_row (HAZ.out _).1 _ _ (by omega)⟩
    · replace HRE : Hid (re = if p = [47] then 22 else if filledN ns p = true then 39 else 0) := Lib.hid (by rw [HRE.out, hxd, if_neg (by decide), if_neg (by decide)])
      have HXV : Hid (nodeV x = #[.string (mkB x.path), .bool true, .string (mkB x.data), .int .i64 x.id]) := Lib.hid (by rw [nodeV, hxd])
      clear hxd
      cases h48 : (p == [47])
      · replace HRE := Lib.hid (HRE.out.trans (if_neg (beq_eq_false_iff_ne.1 h48)))
        rw [h48] at h47
        clear h48
        cases hfl : filledN ns p
        · obtain rfl : re = 0 := by rw [HRE.out, hfl]; rfl
          obtain rfl : rl = dropN ns p := by rw [HRL.out, if_pos rfl]
          rw [hfl] at HFL
          clear hfl HRE HRL
          go_enter Tryz.func15, Tryz.ntmps15
          go_upto_region 1 with fail
          have HF : Hid (∀ w', Below (W.heap.size + 2) ((W.alloc (.cells (keepV (.slice q ns.length c) nx) 24)).alloc (.cells (keepV (.slice none 0 0) 0) 24)) w' → Below W.heap.size W w' ∧ w'.heap[W.heap.size]? = some (.cells (keepV (.slice q ns.length c) nx) 24) ∧ w'.heap[W.heap.size + 1]? = some (.cells (keepV (.slice none 0 0) 0) 24)) := Lib.hid (fun w' h => kept2 h)
          have HS0 : Hid (((W.alloc (.cells (keepV (.slice q ns.length c) nx) 24)).alloc (.cells (keepV (.slice none 0 0) 0) 24)).heap.size = W.heap.size + 2) := Lib.hid (by simp only [heap_len])
          generalize hK : ((W.alloc (.cells (keepV (.slice q ns.length c) nx) 24)).alloc (.cells (keepV (.slice none 0 0) 0) 24)) = K0 at HF HS0 ⊢
          have s0 := cell_at (o := 0) (HF.out K0 (Below.refl _ _)).2.1 rfl
          have s1 := cell_at (o := 1) (HF.out K0 (Below.refl _ _)).2.1 rfl
          clear hK
          go_upto_region 2 with (go_at_call 37; refine (HFI.out _ (HF.out _ (Below.refl _ _)).1).mono ?_; rintro e w1 ⟨rfl, hb1⟩; rw [HXV.out]; have HB1 : Hid (Below (W.heap.size + 2) K0 w1) := Lib.hid (hb1.mono (by rw [HS0.out]; exact Nat.le_refl _)); clear hb1)
          clear s0 s1
          have HA : Hid (∀ o, Below (W.heap.size + 2) K0 (w1.alloc o)) := Lib.hid (fun o => HB1.out.alloc (by have := HB1.out.size; have := HS0.out; omega) _)
          have HAZ := Lib.hid (fun o => HF.out _ (HA.out o))
          have t0 := fun o => cell_at (o := 0) (HAZ.out o).2.1 rfl
          have t1 := fun o => cell_at (o := 1) (HAZ.out o).2.1 rfl
          have HZ := Lib.hid (HAZ.out (.cells (nodeV x) 28)).2.2
          rw [HXV.out] at HZ
          go_upto_region 12 with (go_at_call 38; refine (HFL.out _ (HAZ.out _).1).mono ?_; rintro e w2 ⟨rfl, hb2⟩; have HB2 : Hid (Below (W.heap.size + 2) K0 w2) := Lib.hid ((HA.out _).trans (hb2.mono (by have := HB1.out.size; have := HS0.out; simp only [heap_len]; omega))); have s0 := cell_at (o := 0) (HF.out _ HB2.out).2.1 rfl; have s1 := cell_at (o := 1) (HF.out _ HB2.out).2.1 rfl; have HZ2 := Lib.hid (HF.out _ HB2.out).2.2; clear hb2)
          clear t0 t1 HZ
          go_upto_region 13 with (go_at_call 39; refine (HWO.out _ (HF.out _ HB2.out).1).mono ?_; rintro e w3 ⟨v3, rfl, ho3, hb3⟩; obtain ⟨q3, c3, rfl⟩ := nodesV_slice (nodesV_of_own ho3); have hb3' : Below (W.heap.size + 2) K0 w3 := HB2.out.trans (hb3.mono (by have := HB2.out.size; have := HS0.out; omega)); have HT3 := Lib.hid (HF.out _ hb3').2.1; have HZ3 := Lib.hid (HF.out _ hb3').2.2; have HW3 := Lib.hid (HF.out _ hb3').1; have HO3 := Lib.hid ho3; have HL3 := Lib.hid hb3'; have k0 := cell_at (o := 0) HT3.out rfl; have k1 := cell_at (o := 1) HT3.out rfl; have kz : w3.frozen? ⟨W.heap.size, 0, none⟩ = false := free_at HT3.out; clear ho3 hb3 hb3')
          obtain ⟨W4, hW4⟩ : ∃ W4, W4 = w3.setCell ⟨W.heap.size, 0, none⟩ (.slice q3 (dropN ns p).length c3) := ⟨_, rfl⟩
          have HT4 : Hid (W4.heap[W.heap.size]? = some (.cells (keepV (.slice q3 (dropN ns p).length c3) nx) 24)) := Lib.hid (by rw [hW4]; exact heap_set (o := 0) HT3.out)
          have HZ4 : Hid (W4.heap[W.heap.size + 1]? = some (.cells (keepV (.slice none 0 0) 0) 24)) := Lib.hid (by rw [hW4, heap_set_ne _ _ _ _ _ (by omega)]; exact HZ3.out)
          have HW4 : Hid (Below W.heap.size W W4) := Lib.hid (by rw [hW4]; exact HW3.out.setCell (p := ⟨W.heap.size, 0, none⟩) (Nat.le_refl _) _)
          have hs2 : W.heap.size + 2 ≤ w2.heap.size := by have := HB2.out.size; rw [HS0.out] at this; exact this
          have HO4 : Hid (W4.ownsRow w2.heap.size 28 4 (.slice q3 (dropN ns p).length c3) (dropN ns p).length (nodeVs (dropN ns p))) := Lib.hid (by rw [hW4]; exact ownsRow_above HO3.out (heap_set_len _ _ _) (fun k hk => heap_set_ne _ _ _ _ _ (by omega)))
          rw [← hW4]
          clear hW4 k0 k1 kz s0 s1
          have k0 := cell_at (o := 0) HT4.out rfl
          have k1 := cell_at (o := 1) HT4.out rfl
          go_wp2_with (refine wpl_store 24 ?_; intro ee he; refine wpList_store_row he _ _ _ ee (W.heap.size + 1) (keepV (.slice q3 (dropN ns p).length c3) nx) rfl rfl 24 (keepV (.slice none 0 0) 0) HZ4.out (tree_size _ _) rfl (tree_one _) ?_)
          refine bodyPost_ret (res_cell_tmp rfl rfl (row_same HZ4.out) (by kernel_rfl) (tree_size _ _)) rfl ?_
          exact ⟨_, rfl, nodesV_of_own (ownsRow_above HO4.out (row_len _ _ _) (fun k hk => row_ne _ _ _ _ (by omega))), below_row HW4.out _ _ (by omega)⟩
        · obtain rfl : re = 39 := by rw [HRE.out, hfl]; rfl
          obtain rfl : ns = rl := by rw [HRL.out]; rfl
          rw [hfl] at HFL
          clear hfl HRE HRL HWO
          go_enter Tryz.func15, Tryz.ntmps15
          go_upto_region 1 with fail
          have HF : Hid (∀ w', Below (W.heap.size + 2) ((W.alloc (.cells (keepV (.slice q ns.length c) nx) 24)).alloc (.cells (keepV (.slice none 0 0) 0) 24)) w' → Below W.heap.size W w' ∧ w'.heap[W.heap.size]? = some (.cells (keepV (.slice q ns.length c) nx) 24) ∧ w'.heap[W.heap.size + 1]? = some (.cells (keepV (.slice none 0 0) 0) 24)) := Lib.hid (fun w' h => kept2 h)
          have HS0 : Hid (((W.alloc (.cells (keepV (.slice q ns.length c) nx) 24)).alloc (.cells (keepV (.slice none 0 0) 0) 24)).heap.size = W.heap.size + 2) := Lib.hid (by simp only [heap_len])
          generalize hK : ((W.alloc (.cells (keepV (.slice q ns.length c) nx) 24)).alloc (.cells (keepV (.slice none 0 0) 0) 24)) = K0 at HF HS0 ⊢
          have s0 := cell_at (o := 0) (HF.out K0 (Below.refl _ _)).2.1 rfl
          have s1 := cell_at (o := 1) (HF.out K0 (Below.refl _ _)).2.1 rfl
          clear hK
          go_upto_region 2 with (go_at_call 37; refine (HFI.out _ (HF.out _ (Below.refl _ _)).1).mono ?_; rintro e w1 ⟨rfl, hb1⟩; rw [HXV.out]; have HB1 : Hid (Below (W.heap.size + 2) K0 w1) := Lib.hid (hb1.mono (by rw [HS0.out]; exact Nat.le_refl _)); clear hb1)
          clear s0 s1
          have HA : Hid (∀ o, Below (W.heap.size + 2) K0 (w1.alloc o)) := Lib.hid (fun o => HB1.out.alloc (by have := HB1.out.size; have := HS0.out; omega) _)
          have HAZ := Lib.hid (fun o => HF.out _ (HA.out o))
          have t0 := fun o => cell_at (o := 0) (HAZ.out o).2.1 rfl
          have t1 := fun o => cell_at (o := 1) (HAZ.out o).2.1 rfl
          have HZ := Lib.hid (HAZ.out (.cells (nodeV x) 28)).2.2
          rw [HXV.out] at HZ
          go_wp2_with (first
            | (go_at_call 38; refine (HFL.out _ (HAZ.out _).1).mono ?_; rintro e w2 ⟨rfl, hb2⟩; have HB2 : Hid (Below (W.heap.size + 2) K0 w2) := Lib.hid ((HA.out _).trans (hb2.mono (by have := HB1.out.size; have := HS0.out; simp only [heap_len]; omega))); have s0 := cell_at (o := 0) (HF.out _ HB2.out).2.1 rfl; have s1 := cell_at (o := 1) (HF.out _ HB2.out).2.1 rfl; have HZ2 := Lib.hid (HF.out _ HB2.out).2.2; clear hb2)
            | (refine wpl_store 24 ?_; intro ee he; refine wpList_store_row he _ _ _ ee (W.heap.size + 1) (keepV (.slice q ns.length c) nx) rfl rfl 24 (keepV (.slice none 0 0) 0) HZ2.out (tree_size _ _) rfl (tree_one _) ?_))
          refine bodyPost_ret (res_cell_tmp rfl rfl (row_same HZ2.out) (by kernel_rfl) (tree_size _ _)) rfl ?_
          exact ⟨_, rfl, NodesV.below HN.out (below_row (HF.out _ HB2.out).1 _ _ (by omega)), below_row (HF.out _ HB2.out).1 _ _ (by omega)⟩
      · obtain rfl : re = 22 := by rw [HRE.out, if_pos (beq_iff_eq.1 h48)]
        obtain rfl : ns = rl := by rw [HRL.out]; rfl
        rw [h48] at h47
        clear h48 HRE HRL HWO HFL
        go_enter Tryz.func15, Tryz.ntmps15
        go_upto_region 1 with fail
        have HF : Hid (∀ w', Below (W.heap.size + 2) ((W.alloc (.cells (keepV (.slice q ns.length c) nx) 24)).alloc (.cells (keepV (.slice none 0 0) 0) 24)) w' → Below W.heap.size W w' ∧ w'.heap[W.heap.size]? = some (.cells (keepV (.slice q ns.length c) nx) 24) ∧ w'.heap[W.heap.size + 1]? = some (.cells (keepV (.slice none 0 0) 0) 24)) := Lib.hid (fun w' h => kept2 h)
        have HS0 : Hid (((W.alloc (.cells (keepV (.slice q ns.length c) nx) 24)).alloc (.cells (keepV (.slice none 0 0) 0) 24)).heap.size = W.heap.size + 2) := Lib.hid (by simp only [heap_len])
        generalize hK : ((W.alloc (.cells (keepV (.slice q ns.length c) nx) 24)).alloc (.cells (keepV (.slice none 0 0) 0) 24)) = K0 at HF HS0 ⊢
        have s0 := cell_at (o := 0) (HF.out K0 (Below.refl _ _)).2.1 rfl
        have s1 := cell_at (o := 1) (HF.out K0 (Below.refl _ _)).2.1 rfl
        clear hK
        go_upto_region 2 with (go_at_call 37; refine (HFI.out _ (HF.out _ (Below.refl _ _)).1).mono ?_; rintro e w1 ⟨rfl, hb1⟩; rw [HXV.out]; have HB1 : Hid (Below (W.heap.size + 2) K0 w1) := Lib.hid (hb1.mono (by rw [HS0.out]; exact Nat.le_refl _)); clear hb1)
        clear s0 s1
        have HA : Hid (∀ o, Below (W.heap.size + 2) K0 (w1.alloc o)) := Lib.hid (fun o => HB1.out.alloc (by have := HB1.out.size; have := HS0.out; omega) _)
        have HAZ := Lib.hid (fun o => HF.out _ (HA.out o))
        have t0 := fun o => cell_at (o := 0) (HAZ.out o).2.1 rfl
        have t1 := fun o => cell_at (o := 1) (HAZ.out o).2.1 rfl
        have HZ := Lib.hid (HAZ.out (.cells (nodeV x) 28)).2.2
        rw [HXV.out] at HZ
        go_wp2_with (refine wpl_store 24 ?_; intro ee he; refine wpList_store_row he _ _ _ ee (W.heap.size + 1) (keepV (.slice q ns.length c) nx) rfl rfl 24 (keepV (.slice none 0 0) 0) HZ.out (tree_size _ _) rfl (tree_one _) ?_)
        refine bodyPost_ret (res_cell_tmp rfl rfl (row_same HZ.out) (by kernel_rfl) (tree_size _ _)) rfl ?_
        exact ⟨_, rfl, NodesV.below HN.out (below_row (HAZ.out _).1 _ _ (by omega)), below_row (HAZ.out _).1 _ _ (by omega)⟩
  · obtain rfl : re = findE ns p := by rw [HRE.out, if_neg hfe]
    obtain rfl : ns = rl := by rw [HRL.out, if_neg hfe]
    clear HPA HFL HWO HRE HRL h47
    generalize findE ns p = fe at HFI hfe ⊢
    go_enter Tryz.func15, Tryz.ntmps15
    go_upto_region 1 with fail
    have HF : Hid (∀ w', Below (W.heap.size + 2) ((W.alloc (.cells (keepV (.slice q ns.length c) nx) 24)).alloc (.cells (keepV (.slice none 0 0) 0) 24)) w' → Below W.heap.size W w' ∧ w'.heap[W.heap.size]? = some (.cells (keepV (.slice q ns.length c) nx) 24) ∧ w'.heap[W.heap.size + 1]? = some (.cells (keepV (.slice none 0 0) 0) 24)) := Lib.hid (fun w' h => kept2 h)
    have HS0 : Hid (((W.alloc (.cells (keepV (.slice q ns.length c) nx) 24)).alloc (.cells (keepV (.slice none 0 0) 0) 24)).heap.size = W.heap.size + 2) := Lib.hid (by simp only [heap_len])
    generalize hK : ((W.alloc (.cells (keepV (.slice q ns.length c) nx) 24)).alloc (.cells (keepV (.slice none 0 0) 0) 24)) = K0 at HF HS0 ⊢
    have s0 := cell_at (o := 0) (HF.out K0 (Below.refl _ _)).2.1 rfl
    have s1 := cell_at (o := 1) (HF.out K0 (Below.refl _ _)).2.1 rfl
    clear hK
    go_upto_region 2 with (go_at_call 37; refine (HFI.out _ (HF.out _ (Below.refl _ _)).1).mono ?_; rintro e w1 ⟨rfl, hb1⟩; have HB1 : Hid (Below (W.heap.size + 2) K0 w1) := Lib.hid (hb1.mono (by rw [HS0.out]; exact Nat.le_refl _)); clear hb1)
    clear s0 s1
    have HA : Hid (∀ o, Below (W.heap.size + 2) K0 (w1.alloc o)) := Lib.hid (fun o => HB1.out.alloc (by have := HB1.out.size; have := HS0.out; omega) _)
    have HAZ := Lib.hid (fun o => HF.out _ (HA.out o))
    have t0 := fun o => cell_at (o := 0) (HAZ.out o).2.1 rfl
    have t1 := fun o => cell_at (o := 1) (HAZ.out o).2.1 rfl
    have HZ := Lib.hid (HAZ.out (.cells (nodeV x) 28)).2.2
    go_wp2_with (refine wpl_store 24 ?_; intro ee he; refine wpList_store_row he _ _ _ ee (W.heap.size + 1) (keepV (.slice q ns.length c) nx) rfl rfl 24 (keepV (.slice none 0 0) 0) HZ.out (tree_size _ _) rfl (tree_one _) ?_)
    refine bodyPost_ret (res_cell_tmp rfl rfl (row_same HZ.out) (by kernel_rfl) (tree_size _ _)) rfl ?_
    exact ⟨_, rfl, NodesV.below HN.out (below_row (HAZ.out _).1 _ _ (by omega)), below_row (HAZ.out _).1 _ _ (by omega)⟩
end Go.Proofs.YtlpgandflkabcaaGreatDoor
namespace Go.Proofs.YtlpgandflkabcaaGreatDoor
open Go Go.RowKit Go.Shelf
set_option linter.unusedVariables false
set_option linter.unusedSimpArgs false

set_option maxRecDepth 100000 in
/-- One node more; the row's block is the old one or a new one. -/
theorem append_node2 {ops : Array Oper} {rest : List Oper} {o : Oper} {a : Act} {w : World} {Q : Exit → Act → World → Prop} (hgd : o.guard = none) (s x : Operand)
    (ho : o.op = .call { callee := .builtin .append, args := #[s, x], argTypes := #[22, 22] }) (B : Nat) (v : Value) (l : List NodeD) (hs : a.eval s = v) (hown : w.ownsRow B 28 4 v l.length (nodeVs l))
    (y : NodeD) (g : Nat) (hx : a.eval x = .slice (some ⟨g, 0, none⟩) 1 1) (hg : w.heap[g]? = some (.cells (nodeV y) 28)) (hl : l.length ≤ 1000) (hB : B ≤ w.heap.size)
    (h : ∀ v' w', w'.ownsRow B 28 4 v' (l ++ [y]).length (nodeVs (l ++ [y])) → w.grownBy w' v.ownBlock → (∀ g, v'.ownBlock = some g → v.ownBlock = some g ∨ w.heap.size ≤ g) → wpList Tryz.prog ops Q rest (a.put o.dst v') w') : wpList Tryz.prog ops Q (o :: rest) a w := by
  obtain ⟨i0, hi, hz0, hz1, hz2⟩ := info_parts infoTN
  have hn : (nodeV y).toList.length = 1 * 4 := rfl
  have hc : ∀ j u, (nodeV y).toList[j]? = some u → w.cell? ((⟨g, 0, none⟩ : Addr).add j) = some u := fun j u hj => by
    rw [Addr.add_mid]
    exact cell_at hg (by simpa using hj)
  have h1c : ∀ u ∈ (nodeV y).toList, u.oneCell' = true := by
    intro u hu
    simp at hu
    rcases hu with rfl | rfl | rfl | rfl <;> rfl
  obtain ⟨v', w', hrun, r1, r2, r3⟩ := run_append_own (P := Tryz.prog) w B 22 o.type 28 i0 (.agg #[.string ⟨#[]⟩, .bool false, .string ⟨#[]⟩, .int .i64 0]) 4 48 Tryz.underlying22 hi hz0 hz1 hz2 rfl (by decide) v l.length (nodeVs l) hown ⟨g, 0, none⟩ 1 1 (nodeV y).toList hn hc h1c (by simp only [maxLen]; omega) (by omega) hB
  have r4 : ∀ g, v'.ownBlock = some g → v.ownBlock = some g ∨ w.heap.size ≤ g := by
    rcases hown.2 with ⟨rfl, h0⟩ | ⟨g', cap, cur, rfl, hbg, hg', hnc, hcm, hcs, htake⟩
    · have hr := run_append_nil (P := Tryz.prog) w 22 o.type 28 i0 (.agg #[.string ⟨#[]⟩, .bool false, .string ⟨#[]⟩, .int .i64 0]) Tryz.underlying22 hi hz0 ⟨g, 0, none⟩ 1 1 (nodeV y).toList (by rw [hz1]; exact hn) hc (by omega) (by omega) (by rw [hz2]; omega)
      rw [hr] at hrun
      cases hrun
      intro g hg; cases hg; exact .inr (Nat.le_refl _)
    · by_cases hroom : l.length + 1 ≤ cap
      · have hfit : l.length * i0.size + (nodeV y).toList.length ≤ cur.size := by rw [hn, hcs, hz1, ← Nat.add_mul]; exact Nat.mul_le_mul_right _ hroom
        have hr := run_append_room (P := Tryz.prog) w 22 o.type 28 i0 Tryz.underlying22 hi g' l.length cap cur hg' ⟨g, 0, none⟩ 1 1 (nodeV y).toList (by rw [hz1]; exact hn) hc h1c hroom hfit
        rw [hr] at hrun
        cases hrun
        intro g hg; exact .inl hg
      · have holds : ∀ j u, (nodeVs l)[j]? = some u → w.cell? ((⟨g', 0, none⟩ : Addr).add j) = some u := hown.cells (g := g') rfl
        have hr := run_append_grow (P := Tryz.prog) w 22 o.type 28 i0 (.agg #[.string ⟨#[]⟩, .bool false, .string ⟨#[]⟩, .int .i64 0]) Tryz.underlying22 hi hz0 ⟨g', 0, none⟩ l.length cap (nodeVs l) (by rw [hz1]; exact hown.1) holds ⟨g, 0, none⟩ 1 1 (nodeV y).toList (by rw [hz1]; exact hn) hc (by omega) (by omega) (growslice_fits (by omega) (by rw [hz2]; omega))
        rw [hr] at hrun
        cases hrun
        intro g hg; cases hg; exact .inr (Nat.le_refl _)
  refine wpList_plain hgd fun K hK => ?_
  unfold Oper.wp execOp
  simp only [ho, resolve, invoke, builtin, Sem.run_bind, Sem.run_pure, Result.andThen_ok, List.map_toArray, List.map_cons, List.map_nil, hs, hx, hrun]
  refine hK _ _ (h v' w' ?_ r2 r4)
  rw [nodeVs_snoc, List.length_append]
  exact r1
/-- Two rows of the call's own, apart. -/
structure TwoRows (B : Nat) (w : World) (u1 u2 : Value) (l1 l2 : List NodeD) : Prop where
  one : w.ownsRow B 28 4 u1 l1.length (nodeVs l1)
  two : w.ownsRow B 28 4 u2 l2.length (nodeVs l2)
  apart : ∀ g, u1.ownBlock = some g → u2.ownBlock ≠ some g
theorem TwoRows.alloc {B : Nat} {w : World} {u1 u2 : Value} {l1 l2 : List NodeD} (h : TwoRows B w u1 u2 l1 l2) (o : Obj) : TwoRows B (w.alloc o) u1 u2 l1 l2 := ⟨h.one.alloc o, h.two.alloc o, h.apart⟩
theorem TwoRows.swap {B : Nat} {w : World} {u1 u2 : Value} {l1 l2 : List NodeD} (h : TwoRows B w u1 u2 l1 l2) : TwoRows B w u2 u1 l2 l1 := ⟨h.two, h.one, fun g h1 h2 => h.apart g h2 h1⟩
theorem TwoRows.left {B : Nat} {w w' : World} {u1 u2 v' : Value} {l1 l2 m : List NodeD} (h : TwoRows B w u1 u2 l1 l2) (hown : w'.ownsRow B 28 4 v' m.length (nodeVs m)) (hg : w.grownBy w' u1.ownBlock) (hf : ∀ g, v'.ownBlock = some g → u1.ownBlock = some g ∨ w.heap.size ≤ g) : TwoRows B w' v' u2 m l2 := by
  refine ⟨hown, h.two.kept hg ?_, fun g h1 h2 => ?_⟩
  · cases hu : u2.ownBlock with
    | none => exact .inl rfl
    | some k => exact .inr (fun e => h.apart k e.symm hu)
  · rcases hf g h1 with h3 | h3
    · exact h.apart g h3 h2
    · have := (h.two.lt g h2).2
      omega
theorem TwoRows.right {B : Nat} {w w' : World} {u1 u2 v' : Value} {l1 l2 m : List NodeD} (h : TwoRows B w u1 u2 l1 l2) (hown : w'.ownsRow B 28 4 v' m.length (nodeVs m)) (hg : w.grownBy w' u2.ownBlock) (hf : ∀ g, v'.ownBlock = some g → u2.ownBlock = some g ∨ w.heap.size ≤ g) : TwoRows B w' u1 v' l1 m := (h.swap.left hown hg hf).swap

/-! ### Where something is moved to -/
set_option maxRecDepth 100000 in
set_option maxHeartbeats 4000000 in
theorem rover_any (ns : List NodeD) (hr : RiseS ns) (hpb : ∀ x ∈ ns, pathB x.path = true) (hlen : ns.length ≤ 1000) (x : NodeD) (tw : List UInt8) (hto : pathB tw = true) (v : Value) (nx : Int) (W : World) (hN : NodesV W v ns) :
    Calls Tryz.prog 41 #[.agg (keepV v nx), .agg (nodeV x), .string (mkB tw)] W fun e w' => e = .returned (.int .i64 (freeE ns x tw)) ∧ Below W.heap.size W w' := by
  obtain ⟨q, c, rfl, hN0⟩ := hN
  have hN : NodesV W (.slice q ns.length c) ns := ⟨q, c, rfl, hN0⟩
  obtain ⟨W1, hW1⟩ : ∃ W1, W1 = (W.alloc (.cells (keepV (.slice q ns.length c) nx) 24)).alloc (.cells (nodeV x) 28) := ⟨_, rfl⟩
  have HW1 : Hid (∀ w, Below W1.heap.size W1 w → Below W.heap.size W w ∧ w.heap[W.heap.size]? = some (.cells (keepV (.slice q ns.length c) nx) 24) ∧ w.heap[W.heap.size + 1]? = some (.cells (nodeV x) 28)) := Lib.hid (fun w h => by
    rw [hW1] at h
    exact kept2 (h.mono (by simp only [heap_len]; omega)))
  have HAT : Hid (Calls Tryz.prog 20 #[.agg (keepV (.slice q ns.length c) nx), .string (mkB tw)] W1 fun e w' => e = .returned (.int .i64 (placeS ns tw)) ∧ Below W1.heap.size W1 w') := Lib.hid (place_any ns hlen tw _ nx W1 (hN.below (HW1.out W1 (Below.refl _ _)).1))
  have HFL : Hid (∀ W', Below W1.heap.size W1 W' → Calls Tryz.prog 38 #[.agg (keepV (.slice q ns.length c) nx), .string (mkB tw)] W' fun e w' => e = .returned (.bool (filledN ns tw)) ∧ Below W'.heap.size W' w') := Lib.hid (fun W' hb => rfilled_any ns hpb (by omega) tw hto _ nx W' (hN.below (HW1.out W' hb).1))
  have HFE : Hid (freeE ns x tw = if hasS ns tw = true then (if (foundN ns tw).dir = true ∧ x.dir = false then 21 else if (foundN ns tw).dir = false ∧ x.dir = true then 20 else if filledN ns tw = true then 39 else 0) else 0) := Lib.hid rfl
  have s0 := cell_at (o := 0) (HW1.out W1 (Below.refl _ _)).2.1 rfl
  have s1 := cell_at (o := 1) (HW1.out W1 (Below.refl _ _)).2.1 rfl
  generalize freeE ns x tw = fe at HFE ⊢
  cases hh : hasS ns tw
  · rw [placeS_none hh] at HAT
    obtain rfl : fe = 0 := by rw [HFE.out, hh]; rfl
    clear hN hN0 hr hlen hto HFL HFE hpb
    go_enter Tryz.func41, Tryz.ntmps41
    go_upto_region 1 with fail
    rw [← hW1]
    clear hW1
    go_wp2_with (go_at_call 20; refine HAT.out.mono ?_; rintro e w1 ⟨rfl, hb1⟩; have HB1 := Lib.hid hb1; clear hb1)
    go_ret
    exact ⟨rfl, (HW1.out _ HB1.out).1⟩
  · obtain ⟨hk2, hkp⟩ := (hasS_at hr).1 hh
    have hfo := foundN_at hr (findE_hit hto hh) hk2 hkp
    rw [placeS_low hr hh] at HAT
    obtain ⟨k, hlk⟩ : ∃ k, lowS ns tw = k := ⟨_, rfl⟩
    simp only [hlk] at hk2 hkp hfo
    rw [hfo] at HFE
    replace HFE := Lib.hid (HFE.out.trans (by rw [hh, if_pos rfl]))
    rw [hlk] at HAT
    obtain ⟨b, off, rfl, hrow⟩ := hN0 (nonil hk2)
    have HC : Hid (∀ W', Below W1.heap.size W1 W' → W'.cell? ⟨b, off + k * 4, none⟩ = some (.string (mkB ns[k].path)) ∧ W'.cell? ⟨b, off + k * 4 + 1, none⟩ = some (.bool ns[k].dir) ∧ W'.cell? ⟨b, off + k * 4 + 2, none⟩ = some (.string (mkB ns[k].data)) ∧ W'.cell? ⟨b, off + k * 4 + 3, none⟩ = some (.int .i64 ns[k].id)) := Lib.hid (fun W' hb => ⟨(hrow.below (HW1.out _ hb).1).c0 k hk2, (hrow.below (HW1.out _ hb).1).c1 k hk2, (hrow.below (HW1.out _ hb).1).c2 k hk2, (hrow.below (HW1.out _ hb).1).c3 k hk2⟩)
    have hki : (k : Int) < ns.length := by omega
    have hki0 : ¬ (k : Int) < 0 := by omega
    have hli : (ns.length : Int) ≤ 1000 := by omega
    obtain ⟨y, hy⟩ : ∃ y, y = ns[k] := ⟨_, rfl⟩
    rw [← hy] at HC HFE
    clear hN hN0 hr hlen hto hrow hh hkp hfo hpb hy
    have HX : Hid (∀ (W' : World) o, Below W1.heap.size W1 W' → (W'.alloc o).cell? ⟨W.heap.size + 1, 1, none⟩ = some (.bool x.dir) ∧ (W'.alloc o).cell? ⟨W.heap.size, 0, none⟩ = some (.slice (some ⟨b, off, none⟩) ns.length c) ∧ (W'.alloc o).cell? ⟨W.heap.size, 1, none⟩ = some (.int .i64 nx)) := Lib.hid (fun W' o h => ⟨cell_at (o := 1) (HW1.out _ (h.alloc h.size o)).2.2 rfl, cell_at (o := 0) (HW1.out _ (h.alloc h.size o)).2.1 rfl, cell_at (o := 1) (HW1.out _ (h.alloc h.size o)).2.1 rfl⟩)
    cases hyd : y.dir <;> cases hxd : x.dir
    · rw [hyd] at HC
      rw [hxd] at HX
      cases hfl : filledN ns tw
      · obtain rfl : fe = 0 := by rw [HFE.out, hyd, hxd, hfl]; rfl
        rw [hfl] at HFL
        clear HFE
        go_enter Tryz.func41, Tryz.ntmps41
        go_upto_region 1 with fail
        rw [← hW1]
        clear hW1
        go_wp2_with (first
          | (go_at_call 20; refine HAT.out.mono ?_; rintro e w1 ⟨rfl, hb1⟩; have HB1 := Lib.hid hb1; obtain ⟨c0, c1, c2, c3⟩ := HC.out _ hb1; have t0 := cell_at (o := 0) (HW1.out _ hb1).2.1 rfl; have x1 := fun o => (HX.out _ o hb1).1; have x2 := fun o => (HX.out _ o hb1).2.1; have x3 := fun o => (HX.out _ o hb1).2.2; clear hb1)
          | (go_at_call 38; refine (HFL.out _ (HB1.out.alloc HB1.out.size _)).mono ?_; rintro e w2 ⟨rfl, hb2⟩; have HB2 := Lib.hid ((HB1.out.alloc HB1.out.size _).trans (hb2.mono (HB1.out.alloc HB1.out.size _).size)); clear hb2))
        go_ret
        exact ⟨rfl, (HW1.out _ HB2.out).1⟩
      · obtain rfl : fe = 39 := by rw [HFE.out, hyd, hxd, hfl]; rfl
        rw [hfl] at HFL
        clear HFE
        go_enter Tryz.func41, Tryz.ntmps41
        go_upto_region 1 with fail
        rw [← hW1]
        clear hW1
        go_wp2_with (first
          | (go_at_call 20; refine HAT.out.mono ?_; rintro e w1 ⟨rfl, hb1⟩; have HB1 := Lib.hid hb1; obtain ⟨c0, c1, c2, c3⟩ := HC.out _ hb1; have t0 := cell_at (o := 0) (HW1.out _ hb1).2.1 rfl; have x1 := fun o => (HX.out _ o hb1).1; have x2 := fun o => (HX.out _ o hb1).2.1; have x3 := fun o => (HX.out _ o hb1).2.2; clear hb1)
          | (go_at_call 38; refine (HFL.out _ (HB1.out.alloc HB1.out.size _)).mono ?_; rintro e w2 ⟨rfl, hb2⟩; have HB2 := Lib.hid ((HB1.out.alloc HB1.out.size _).trans (hb2.mono (HB1.out.alloc HB1.out.size _).size)); clear hb2))
        go_ret
        exact ⟨rfl, (HW1.out _ HB2.out).1⟩
    · rw [hyd] at HC
      rw [hxd] at HX
      obtain rfl : fe = 20 := by rw [HFE.out, hyd, hxd]; rfl
      clear HFE
      go_enter Tryz.func41, Tryz.ntmps41
      go_upto_region 1 with fail
      rw [← hW1]
      clear hW1
      go_wp2_with (first
        | (go_at_call 20; refine HAT.out.mono ?_; rintro e w1 ⟨rfl, hb1⟩; have HB1 := Lib.hid hb1; obtain ⟨c0, c1, c2, c3⟩ := HC.out _ hb1; have t0 := cell_at (o := 0) (HW1.out _ hb1).2.1 rfl; have x1 := fun o => (HX.out _ o hb1).1; have x2 := fun o => (HX.out _ o hb1).2.1; have x3 := fun o => (HX.out _ o hb1).2.2; clear hb1))
      go_ret
      exact ⟨rfl, (HW1.out _ (HB1.out.alloc HB1.out.size _)).1⟩
    · rw [hyd] at HC
      rw [hxd] at HX
      obtain rfl : fe = 21 := by rw [HFE.out, hyd, hxd]; rfl
      clear HFE
      go_enter Tryz.func41, Tryz.ntmps41
      go_upto_region 1 with fail
      rw [← hW1]
      clear hW1
      go_wp2_with (first
        | (go_at_call 20; refine HAT.out.mono ?_; rintro e w1 ⟨rfl, hb1⟩; have HB1 := Lib.hid hb1; obtain ⟨c0, c1, c2, c3⟩ := HC.out _ hb1; have t0 := cell_at (o := 0) (HW1.out _ hb1).2.1 rfl; have x1 := fun o => (HX.out _ o hb1).1; have x2 := fun o => (HX.out _ o hb1).2.1; have x3 := fun o => (HX.out _ o hb1).2.2; clear hb1))
      go_ret
      exact ⟨rfl, (HW1.out _ (HB1.out.alloc HB1.out.size _)).1⟩
    · rw [hyd] at HC
      rw [hxd] at HX
      cases hfl : filledN ns tw
      · obtain rfl : fe = 0 := by rw [HFE.out, hyd, hxd, hfl]; rfl
        rw [hfl] at HFL
        clear HFE
        go_enter Tryz.func41, Tryz.ntmps41
        go_upto_region 1 with fail
        rw [← hW1]
        clear hW1
        go_wp2_with (first
          | (go_at_call 20; refine HAT.out.mono ?_; rintro e w1 ⟨rfl, hb1⟩; have HB1 := Lib.hid hb1; obtain ⟨c0, c1, c2, c3⟩ := HC.out _ hb1; have t0 := cell_at (o := 0) (HW1.out _ hb1).2.1 rfl; have x1 := fun o => (HX.out _ o hb1).1; have x2 := fun o => (HX.out _ o hb1).2.1; have x3 := fun o => (HX.out _ o hb1).2.2; clear hb1)
          | (go_at_call 38; refine (HFL.out _ (HB1.out.alloc HB1.out.size _)).mono ?_; rintro e w2 ⟨rfl, hb2⟩; have HB2 := Lib.hid ((HB1.out.alloc HB1.out.size _).trans (hb2.mono (HB1.out.alloc HB1.out.size _).size)); clear hb2))
        go_ret
        exact ⟨rfl, (HW1.out _ HB2.out).1⟩
      · obtain rfl : fe = 39 := by rw [HFE.out, hyd, hxd, hfl]; rfl
        rw [hfl] at HFL
        clear HFE
        go_enter Tryz.func41, Tryz.ntmps41
        go_upto_region 1 with fail
        rw [← hW1]
        clear hW1
        go_wp2_with (first
          | (go_at_call 20; refine HAT.out.mono ?_; rintro e w1 ⟨rfl, hb1⟩; have HB1 := Lib.hid hb1; obtain ⟨c0, c1, c2, c3⟩ := HC.out _ hb1; have t0 := cell_at (o := 0) (HW1.out _ hb1).2.1 rfl; have x1 := fun o => (HX.out _ o hb1).1; have x2 := fun o => (HX.out _ o hb1).2.1; have x3 := fun o => (HX.out _ o hb1).2.2; clear hb1)
          | (go_at_call 38; refine (HFL.out _ (HB1.out.alloc HB1.out.size _)).mono ?_; rintro e w2 ⟨rfl, hb2⟩; have HB2 := Lib.hid ((HB1.out.alloc HB1.out.size _).trans (hb2.mono (HB1.out.alloc HB1.out.size _).size)); clear hb2))
        go_ret
        exact ⟨rfl, (HW1.out _ HB2.out).1⟩
end Go.Proofs.YtlpgandflkabcaaGreatDoor
