/-
  tree.Rename, whatever the paths.
-/
import Derived.Test.YtlpgandflkabcaaGreatDoorFTtF
namespace Go.Proofs.YtlpgandflkabcaaGreatDoor
open Go Go.RowKit Go.Shelf
set_option linter.unusedVariables false
set_option linter.unusedSimpArgs false

/-- The error that Rename sees before it moves anything. -/
def preE (ns : List NodeD) (fr tw : List UInt8) : Int :=
  if pathB fr = true ∧ pathB tw = true then (if findE ns fr = 0 then (if fr = [47] ∨ tw = [47] ∨ belowQ tw fr = true then 22 else if parentE ns tw = 0 then (if fr = tw then 0 else freeE ns (foundN ns fr) tw) else parentE ns tw) else findE ns fr) else 22
def RenAns (ns : List NodeD) (fr tw : List UInt8) (E : Int) (l : List NodeD) : Prop :=
  (preE ns fr tw ≠ 0 ∧ E = preE ns fr tw ∧ l = ns) ∨ (preE ns fr tw = 0 ∧ fr = tw ∧ E = 0 ∧ l = ns) ∨
  (preE ns fr tw = 0 ∧ fr ≠ tw ∧ LongN fr tw (dropN ns tw) ∧ E = 36 ∧ l = ns) ∨
  (preE ns fr tw = 0 ∧ fr ≠ tw ∧ ¬ LongN fr tw (dropN ns tw) ∧ E = 0 ∧ l.Perm ((dropN ns tw).map (mvN fr tw)) ∧ l.Pairwise fun a b => ¬ b.path < a.path)
def RenPost (ns : List NodeD) (fr tw : List UInt8) (nx : Int) (W : World) (e : Ending) (w' : World) : Prop := ∃ v' E l, e = .returned (.tuple #[.agg (keepV v' nx), .int .i64 E]) ∧ NodesV w' v' l ∧ RenAns ns fr tw E l ∧ Below W.heap.size W w'
theorem renPost_mk {ns : List NodeD} {fr tw : List UInt8} {nx : Int} {W : World} {e : Ending} {w' : World} (v' : Value) (E : Int) (l : List NodeD) (h1 : e = .returned (.tuple #[.agg (keepV v' nx), .int .i64 E])) (h2 : NodesV w' v' l) (h3 : RenAns ns fr tw E l) (h4 : Below W.heap.size W w') : RenPost ns fr tw nx W e w' := ⟨v', E, l, h1, h2, h3, h4⟩
theorem belowQ_same (p : List UInt8) : belowQ p p = false := by simp [belowQ]
set_option maxRecDepth 100000 in
set_option maxHeartbeats 32000000 in
theorem rename_any (ns : List NodeD) (hr : RiseS ns) (hlen : ns.length ≤ 1000) (hps : ∀ k (h : k < ns.length), ns[k].path.length ≤ 1000) (fr tw : List UInt8) (hfl : fr.length ≤ 1000000) (htl : tw.length ≤ 1000000) (v : Value) (nx : Int) (W : World) (hN : NodesV W v ns) :
    Calls Tryz.prog 13 #[.agg (keepV v nx), .string (mkB fr), .string (mkB tw)] W fun e w' => RenPost ns fr tw nx W e w' := by
  obtain ⟨q, c, rfl, hN0⟩ := hN
  have hN : NodesV W (.slice q ns.length c) ns := ⟨q, c, rfl, hN0⟩
  clear hN0
  have HN := Lib.hid hN
  have HPF := Lib.hid (fun w => isPath_any fr w hfl)
  have HPT := Lib.hid (fun w => isPath_any tw w htl)
  have HPRE : Hid (preE ns fr tw = if pathB fr = true ∧ pathB tw = true then (if findE ns fr = 0 then (if fr = [47] ∨ tw = [47] ∨ belowQ tw fr = true then 22 else if parentE ns tw = 0 then (if fr = tw then 0 else freeE ns (foundN ns fr) tw) else parentE ns tw) else findE ns fr) else 22) := Lib.hid rfl
  have HBAD : Hid (∀ E : Int, preE ns fr tw = E → E ≠ 0 → RenAns ns fr tw E ns) := Lib.hid (fun E h1 h2 => .inl ⟨by rw [h1]; exact h2, h1.symm, rfl⟩)
  have h47f : ((mkB fr).toList == [47]) = (fr == [47]) := by rw [mkB_toList]
  have h47t : ((mkB tw).toList == [47]) = (tw == [47]) := by rw [mkB_toList]
  have hft : ((mkB fr).toList == (mkB tw).toList) = (fr == tw) := by rw [mkB_toList, mkB_toList]
  cases hpf : pathB fr
  · have HFB := Lib.hid hpf
    have HRA : Hid (RenAns ns fr tw 22 ns) := Lib.hid (HBAD.out 22 (by rw [HPRE.out, if_neg (fun h => by rw [hpf] at h; cases h.1)]) (by decide))
    clear hN hr hlen hps hpf HPRE HBAD h47f h47t hft
    go_enter Tryz.func13, Tryz.ntmps13
    go_upto_region 2 with fail
    have HF : Hid (∀ w', Below (W.heap.size + 3) (((W.alloc (.cells (keepV (.slice q ns.length c) nx) 24)).alloc (.cells (keepV (.slice none 0 0) 0) 24)).alloc (.cells (keepV (.slice q ns.length c) nx) 54)) w' → Below W.heap.size W w' ∧ w'.heap[W.heap.size]? = some (.cells (keepV (.slice q ns.length c) nx) 24) ∧ w'.heap[W.heap.size + 1]? = some (.cells (keepV (.slice none 0 0) 0) 24) ∧ w'.heap[W.heap.size + 1 + 1]? = some (.cells (keepV (.slice q ns.length c) nx) 54)) := Lib.hid (fun w' h => kept3 h)
    have HS0 : Hid ((((W.alloc (.cells (keepV (.slice q ns.length c) nx) 24)).alloc (.cells (keepV (.slice none 0 0) 0) 24)).alloc (.cells (keepV (.slice q ns.length c) nx) 54)).heap.size = W.heap.size + 3) := Lib.hid (by simp only [heap_len])
    generalize hK : (((W.alloc (.cells (keepV (.slice q ns.length c) nx) 24)).alloc (.cells (keepV (.slice none 0 0) 0) 24)).alloc (.cells (keepV (.slice q ns.length c) nx) 54)) = K0 at HF HS0 ⊢
    clear hK
    go_wp2_with (first
      | (go_at_call 26; with_reducible refine (HPF.out _).mono ?_; rintro e w1 ⟨rfl, hb1⟩; rw [HFB.out]; have HB1 : Hid (Below (W.heap.size + 3) K0 w1) := Lib.hid (hb1.mono (by rw [HS0.out]; exact Nat.le_refl _)); have t10 := cell_at (o := 0) (HF.out _ HB1.out).2.1 rfl; have t11 := cell_at (o := 1) (HF.out _ HB1.out).2.1 rfl; have HZ1 := Lib.hid (HF.out _ HB1.out).2.2.1; clear hb1)
      | (refine wpl_store 24 ?_; intro ee he; refine wpList_store_row he _ _ _ ee (W.heap.size + 1) (keepV (.slice q ns.length c) nx) rfl rfl 24 (keepV (.slice none 0 0) 0) HZ1.out (tree_size _ _) rfl (tree_one _) ?_))
    refine bodyPost_ret (res_cell_tmp rfl rfl (row_same HZ1.out) (by kernel_rfl) (tree_size _ _)) rfl ?_
    exact renPost_mk _ _ ns rfl (NodesV.below HN.out (below_row (HF.out _ HB1.out).1 _ _ (by omega))) HRA.out (below_row (HF.out _ HB1.out).1 _ _ (by omega))
  · have HFB := Lib.hid hpf
    cases hpt : pathB tw
    · have HTB := Lib.hid hpt
      have HRA : Hid (RenAns ns fr tw 22 ns) := Lib.hid (HBAD.out 22 (by rw [HPRE.out, if_neg (fun h => by rw [hpt] at h; cases h.2)]) (by decide))
      clear hN hr hlen hps hpf hpt HPRE HBAD h47f h47t hft
      go_enter Tryz.func13, Tryz.ntmps13
      go_upto_region 2 with fail
      have HF : Hid (∀ w', Below (W.heap.size + 3) (((W.alloc (.cells (keepV (.slice q ns.length c) nx) 24)).alloc (.cells (keepV (.slice none 0 0) 0) 24)).alloc (.cells (keepV (.slice q ns.length c) nx) 54)) w' → Below W.heap.size W w' ∧ w'.heap[W.heap.size]? = some (.cells (keepV (.slice q ns.length c) nx) 24) ∧ w'.heap[W.heap.size + 1]? = some (.cells (keepV (.slice none 0 0) 0) 24) ∧ w'.heap[W.heap.size + 1 + 1]? = some (.cells (keepV (.slice q ns.length c) nx) 54)) := Lib.hid (fun w' h => kept3 h)
      have HS0 : Hid ((((W.alloc (.cells (keepV (.slice q ns.length c) nx) 24)).alloc (.cells (keepV (.slice none 0 0) 0) 24)).alloc (.cells (keepV (.slice q ns.length c) nx) 54)).heap.size = W.heap.size + 3) := Lib.hid (by simp only [heap_len])
      generalize hK : (((W.alloc (.cells (keepV (.slice q ns.length c) nx) 24)).alloc (.cells (keepV (.slice none 0 0) 0) 24)).alloc (.cells (keepV (.slice q ns.length c) nx) 54)) = K0 at HF HS0 ⊢
      clear hK
      go_wp2_with (first
        | (go_at_call 26; with_reducible refine (HPF.out _).mono ?_; rintro e w1 ⟨rfl, hb1⟩; rw [HFB.out]; have HB1 : Hid (Below (W.heap.size + 3) K0 w1) := Lib.hid (hb1.mono (by rw [HS0.out]; exact Nat.le_refl _)); have t10 := cell_at (o := 0) (HF.out _ HB1.out).2.1 rfl; have t11 := cell_at (o := 1) (HF.out _ HB1.out).2.1 rfl; have HZ1 := Lib.hid (HF.out _ HB1.out).2.2.1; clear hb1)
        | (go_at_call 26; with_reducible refine (HPT.out _).mono ?_; rintro e w2 ⟨rfl, hb2⟩; rw [HTB.out]; have HB2 : Hid (Below (W.heap.size + 3) K0 w2) := Lib.hid (HB1.out.trans (hb2.mono (by have := HB1.out.size; have := HS0.out; omega))); have t20 := cell_at (o := 0) (HF.out _ HB2.out).2.1 rfl; have t21 := cell_at (o := 1) (HF.out _ HB2.out).2.1 rfl; have HZ2 := Lib.hid (HF.out _ HB2.out).2.2.1; clear hb2)
        | (refine wpl_store 24 ?_; intro ee he; refine wpList_store_row he _ _ _ ee (W.heap.size + 1) (keepV (.slice q ns.length c) nx) rfl rfl 24 (keepV (.slice none 0 0) 0) HZ2.out (tree_size _ _) rfl (tree_one _) ?_))
      refine bodyPost_ret (res_cell_tmp rfl rfl (row_same HZ2.out) (by kernel_rfl) (tree_size _ _)) rfl ?_
      exact renPost_mk _ _ ns rfl (NodesV.below HN.out (below_row (HF.out _ HB2.out).1 _ _ (by omega))) HRA.out (below_row (HF.out _ HB2.out).1 _ _ (by omega))
    · have HTB := Lib.hid hpt
      replace HPRE := Lib.hid (HPRE.out.trans (if_pos ⟨hpf, hpt⟩))
      have HFI : Hid (∀ (kb : Nat) (W' : World), Below W.heap.size W W' → W'.heap[kb]? = some (.cells (keepV (.slice q ns.length c) nx) 54) → Calls Tryz.prog 25 #[.pointer (some ⟨kb, 0, none⟩), .string (mkB fr)] W' fun e w' => e = .returned (.tuple #[.agg (nodeV (foundN ns fr)), .int .i64 (findE ns fr)]) ∧ Below W'.heap.size W' w') := Lib.hid (fun kb W' hb hk => find_any ns hr (by omega) fr hfl kb _ _ nx W' hk (hN.below hb))
      have HBE : Hid (∀ w, Calls Tryz.prog 32 #[.string (mkB tw), .string (mkB fr)] w fun e w' => e = .returned (.bool (belowQ tw fr)) ∧ w' = w) := Lib.hid (fun w => below_any tw fr hpf w)
      have HPA : Hid (∀ (kb : Nat) (W' : World), Below W.heap.size W W' → W'.heap[kb]? = some (.cells (keepV (.slice q ns.length c) nx) 54) → Calls Tryz.prog 28 #[.pointer (some ⟨kb, 0, none⟩), .string (mkB tw)] W' fun e w' => e = .returned (.int .i64 (parentE ns tw)) ∧ Below W'.heap.size W' w') := Lib.hid (fun kb W' hb hk => parent_any ns hr (by omega) tw hpt kb _ _ nx W' hk (hN.below hb))
      have HFR : Hid (∀ (kb : Nat) (W' : World), Below W.heap.size W W' → W'.heap[kb]? = some (.cells (keepV (.slice q ns.length c) nx) 54) → Calls Tryz.prog 33 #[.pointer (some ⟨kb, 0, none⟩), .agg (nodeV (foundN ns fr)), .string (mkB tw)] W' fun e w' => e = .returned (.int .i64 (freeE ns (foundN ns fr) tw)) ∧ Below W'.heap.size W' w') := Lib.hid (fun kb W' hb hk => free_any ns hr (by omega) _ tw hpt kb _ _ nx W' hk (hN.below hb))
      have HNEV : Hid (findE ns fr = 0 → 0 < ns.length ∧ (fr ≠ tw → 0 < (dropN ns tw).length)) := Lib.hid (fun h => by
        obtain ⟨_, k, hk, hkp, _⟩ := findE_zero hr h
        refine ⟨by omega, fun hne => List.length_pos_of_mem (a := ns[k]) (List.mem_filter.2 ⟨List.getElem_mem hk, ?_⟩)⟩
        rw [hkp, beq_eq_false_iff_ne.2 hne]; rfl)
      have HDR : Hid (0 < ns.length → ∀ (kb : Nat) (W' : World), Below W.heap.size W W' → W'.heap[kb]? = some (.cells (keepV (.slice q ns.length c) nx) 54) → Calls Tryz.prog 31 #[.pointer (some ⟨kb, 0, none⟩), .string (mkB tw)] W' fun e w' => e = .returned (.tuple #[]) ∧ KeptBut kb W' w' ∧ ∃ v', w'.heap[kb]? = some (.cells (keepV v' nx) 54) ∧ w'.ownsRow W'.heap.size 28 4 v' (dropN ns tw).length (nodeVs (dropN ns tw))) := Lib.hid (fun hne kb W' hb hk => drop_any ns hlen hne tw kb _ _ nx W' hk (hN.below hb))
      have HMO : Hid (0 < (dropN ns tw).length → ∀ (kb : Nat) (v : Value) (W' : World), W'.heap[kb]? = some (.cells (keepV v nx) 54) → NodesV W' v (dropN ns tw) → Calls Tryz.prog 34 #[.pointer (some ⟨kb, 0, none⟩), .string (mkB fr), .string (mkB tw)] W' fun e w' =>
          (e = .returned (.int .i64 36) ∧ LongN fr tw (dropN ns tw) ∧ Below W'.heap.size W' w') ∨ (e = .returned (.int .i64 0) ∧ ¬ LongN fr tw (dropN ns tw) ∧ KeptBut kb W' w' ∧ ∃ v' S, w'.heap[kb]? = some (.cells (keepV v' nx) 54) ∧ S.Perm ((dropN ns tw).map (mvN fr tw)) ∧ S.Pairwise (fun a b => ¬ b.path < a.path) ∧ w'.ownsRow W'.heap.size 28 4 v' S.length (nodeVs S))) := Lib.hid (fun hne kb v W' hk hN' => move_any (dropN ns tw) (Nat.le_trans (dropN_le ns tw) hlen) hne (fun k h => by
        obtain ⟨j, hj, he⟩ := List.getElem_of_mem (List.mem_filter.1 (List.getElem_mem h)).1
        have := hps j hj
        rw [he] at this
        exact this) fr tw hpf (path_len hpt) kb _ v nx W' hk hN')
      clear hN hr hlen hps hpf hpt
      generalize foundN ns fr = x at HFI HFR HPRE
      by_cases hfe : findE ns fr = 0
      · rw [hfe] at HFI
        replace HPRE := Lib.hid (HPRE.out.trans (if_pos hfe))
        replace HDR := Lib.hid (HDR.out (HNEV.out hfe).1)
        replace HNEV := Lib.hid (HNEV.out hfe).2
        clear hfe
        cases e1 : (fr == [47])
        · rw [e1] at h47f
          have HE1 := Lib.hid (beq_eq_false_iff_ne.1 e1)
          clear e1
          cases e2 : (tw == [47])
          · rw [e2] at h47t
            have HE2 := Lib.hid (beq_eq_false_iff_ne.1 e2)
            clear e2
            cases e3 : belowQ tw fr
            · rw [e3] at HBE
              replace HPRE := Lib.hid (HPRE.out.trans (if_neg (fun h => h.elim HE1.out (fun h => h.elim HE2.out (fun h => by rw [e3] at h; cases h)))))
              clear e3
              by_cases hpe : parentE ns tw = 0
              · rw [hpe] at HPA
                replace HPRE := Lib.hid (HPRE.out.trans (if_pos hpe))
                clear hpe
                cases e4 : (fr == tw)
                · have HNE := Lib.hid (beq_eq_false_iff_ne.1 e4)
                  rw [e4] at hft
                  replace HPRE := Lib.hid (HPRE.out.trans (if_neg HNE.out))
                  replace HMO := Lib.hid (HMO.out (HNEV.out HNE.out))
                  clear e4 HNEV
                  generalize freeE ns x tw = fe at HFR HPRE
                  by_cases hfz : fe = 0
                  · subst hfz
                    have HPE := Lib.hid HPRE.out
                    clear HPRE HBAD
                    go_enter Tryz.func13, Tryz.ntmps13
                    go_upto_region 2 with fail
                    have HF : Hid (∀ w', Below (W.heap.size + 3) (((W.alloc (.cells (keepV (.slice q ns.length c) nx) 24)).alloc (.cells (keepV (.slice none 0 0) 0) 24)).alloc (.cells (keepV (.slice q ns.length c) nx) 54)) w' → Below W.heap.size W w' ∧ w'.heap[W.heap.size]? = some (.cells (keepV (.slice q ns.length c) nx) 24) ∧ w'.heap[W.heap.size + 1]? = some (.cells (keepV (.slice none 0 0) 0) 24) ∧ w'.heap[W.heap.size + 1 + 1]? = some (.cells (keepV (.slice q ns.length c) nx) 54)) := Lib.hid (fun w' h => kept3 h)
                    have HS0 : Hid ((((W.alloc (.cells (keepV (.slice q ns.length c) nx) 24)).alloc (.cells (keepV (.slice none 0 0) 0) 24)).alloc (.cells (keepV (.slice q ns.length c) nx) 54)).heap.size = W.heap.size + 3) := Lib.hid (by simp only [heap_len])
                    generalize hK : (((W.alloc (.cells (keepV (.slice q ns.length c) nx) 24)).alloc (.cells (keepV (.slice none 0 0) 0) 24)).alloc (.cells (keepV (.slice q ns.length c) nx) 54)) = K0 at HF HS0 ⊢
                    clear hK
                    go_upto_region 5 with (first
                      | (go_at_call 26; with_reducible refine (HPF.out _).mono ?_; rintro e w1 ⟨rfl, hb1⟩; rw [HFB.out]; have HB1 : Hid (Below (W.heap.size + 3) K0 w1) := Lib.hid (hb1.mono (by rw [HS0.out]; exact Nat.le_refl _)); have t10 := cell_at (o := 0) (HF.out _ HB1.out).2.1 rfl; have t11 := cell_at (o := 1) (HF.out _ HB1.out).2.1 rfl; have HZ1 := Lib.hid (HF.out _ HB1.out).2.2.1; clear hb1)
                      | (go_at_call 26; with_reducible refine (HPT.out _).mono ?_; rintro e w2 ⟨rfl, hb2⟩; rw [HTB.out]; have HB2 : Hid (Below (W.heap.size + 3) K0 w2) := Lib.hid (HB1.out.trans (hb2.mono (by have := HB1.out.size; have := HS0.out; omega))); have t20 := cell_at (o := 0) (HF.out _ HB2.out).2.1 rfl; have t21 := cell_at (o := 1) (HF.out _ HB2.out).2.1 rfl; have HZ2 := Lib.hid (HF.out _ HB2.out).2.2.1; clear hb2)
                      | (go_at_call 25; refine (HFI.out _ _ (HF.out _ HB2.out).1 (HF.out _ HB2.out).2.2.2).mono ?_; rintro e w3 ⟨rfl, hb3⟩; have HB3 : Hid (Below (W.heap.size + 3) K0 w3) := Lib.hid (HB2.out.trans (hb3.mono (by have := HB2.out.size; have := HS0.out; omega))); clear hb3))
                    clear t10 t11 t20 t21 HZ1 HZ2
                    have HA : Hid (∀ o, Below (W.heap.size + 3) K0 (w3.alloc o)) := Lib.hid (fun o => HB3.out.alloc (by have := HB3.out.size; have := HS0.out; omega) _)
                    have HAZ := Lib.hid (fun o => HF.out _ (HA.out o))
                    have t0 := fun o => cell_at (o := 0) (HAZ.out o).2.1 rfl
                    have t1 := fun o => cell_at (o := 1) (HAZ.out o).2.1 rfl
                    have HZ := Lib.hid (HAZ.out (.cells (nodeV x) 28)).2.2.1
                    go_upto_region 14 with (first
                      | (go_at_call 32; refine (HBE.out _).mono ?_; rintro e wb ⟨rfl, rfl⟩)
                      | (go_at_call 28; refine (HPA.out _ _ (HAZ.out _).1 (HAZ.out _).2.2.2).mono ?_; rintro e w4 ⟨rfl, hb4⟩; have HX4 := Lib.hid ((hb4.block w3.heap.size (by simp only [heap_len]; omega)).trans (heap_new w3 (.cells (nodeV x) 28) _ rfl)); have HB4 : Hid (Below (W.heap.size + 3) K0 w4) := Lib.hid ((HA.out _).trans (hb4.mono (by have := HB3.out.size; have := HS0.out; simp only [heap_len]; omega))); have t40 := cell_at (o := 0) (HF.out _ HB4.out).2.1 rfl; have t41 := cell_at (o := 1) (HF.out _ HB4.out).2.1 rfl; have HZ4 := Lib.hid (HF.out _ HB4.out).2.2.1; have z0 := cell_at (o := 0) HX4.out rfl; have z1 := cell_at (o := 1) HX4.out rfl; have z2 := cell_at (o := 2) HX4.out rfl; have z3 := cell_at (o := 3) HX4.out rfl; clear hb4)
                      | (go_at_call 33; refine (HFR.out _ _ (HF.out _ HB4.out).1 (HF.out _ HB4.out).2.2.2).mono ?_; rintro e w5 ⟨rfl, hb5⟩; have HB5 : Hid (Below (W.heap.size + 3) K0 w5) := Lib.hid (HB4.out.trans (hb5.mono (by have := HB4.out.size; have := HS0.out; omega))); have t50 := cell_at (o := 0) (HF.out _ HB5.out).2.1 rfl; have t51 := cell_at (o := 1) (HF.out _ HB5.out).2.1 rfl; have HZ5 := Lib.hid (HF.out _ HB5.out).2.2.1; clear hb5))
                    clear t0 t1 HZ t40 t41 HZ4 t50 t51 HZ5 z0 z1 z2 z3
                    have HK5 := Lib.hid (HF.out _ HB5.out)
                    have HD5 := Lib.hid (HDR.out _ _ HK5.out.1 HK5.out.2.2.2)
                    go_upto_region 15 with (go_at_call 31; refine HD5.out.mono ?_; rintro e w6 ⟨rfl, hkb6, v6, hv6, ho6⟩; have HKB6 := Lib.hid hkb6; have HV6 := Lib.hid hv6; have HO6 := Lib.hid ho6; clear hkb6 hv6 ho6)
                    have HM6 := Lib.hid (HMO.out _ v6 w6 HV6.out (nodesV_of_own HO6.out))
                    have HW6 : Hid (Below W.heap.size W w6) := Lib.hid (HK5.out.1.trans (HKB6.out.below (by omega) HK5.out.1.size))
                    have HT6 : Hid (w6.heap[W.heap.size]? = some (.cells (keepV (.slice q ns.length c) nx) 24) ∧ w6.heap[W.heap.size + 1]? = some (.cells (keepV (.slice none 0 0) 0) 24)) := Lib.hid ⟨(HKB6.out.block _ (heap_lt HK5.out.2.1) (by omega)).trans HK5.out.2.1, (HKB6.out.block _ (heap_lt HK5.out.2.2.1) (by omega)).trans HK5.out.2.2.1⟩
                    go_upto_region 16 with (go_at_call 34; refine HM6.out.mono ?_; rintro e w7 hans; obtain ⟨r7, rfl⟩ : ∃ r, e = .returned (.int .i64 r) := hans.elim (fun h => ⟨_, h.1⟩) (fun h => ⟨_, h.1⟩); have HAN := Lib.hid hans; clear hans)
                    rcases HAN.out with ⟨he, hlo, hb7⟩ | ⟨he, hlo, hk7, v7, S, hv7, hS1, hS2, hO7⟩
                    · cases he
                      have HL7 := Lib.hid hlo
                      have HB7 : Hid (Below W.heap.size W w7) := Lib.hid (HW6.out.trans (hb7.mono HW6.out.size))
                      have HT7 : Hid (w7.heap[W.heap.size]? = some (.cells (keepV (.slice q ns.length c) nx) 24) ∧ w7.heap[W.heap.size + 1]? = some (.cells (keepV (.slice none 0 0) 0) 24)) := Lib.hid ⟨(hb7.block _ (heap_lt HT6.out.1)).trans HT6.out.1, (hb7.block _ (heap_lt HT6.out.2)).trans HT6.out.2⟩
                      have u0 := cell_at (o := 0) HT7.out.1 rfl
                      have u1 := cell_at (o := 1) HT7.out.1 rfl
                      have HZ7 := Lib.hid HT7.out.2
                      clear hlo hb7 HAN
                      go_wp2_with (refine wpl_store 24 ?_; intro ee he; refine wpList_store_row he _ _ _ ee (W.heap.size + 1) (keepV (.slice q ns.length c) nx) rfl rfl 24 (keepV (.slice none 0 0) 0) HZ7.out (tree_size _ _) rfl (tree_one _) ?_)
                      refine bodyPost_ret (res_cell_tmp rfl rfl (row_same HZ7.out) (by kernel_rfl) (tree_size _ _)) rfl ?_
                      exact renPost_mk _ _ ns rfl (NodesV.below HN.out (below_row HB7.out _ _ (by omega))) (.inr (.inr (.inl ⟨HPE.out, HNE.out, HL7.out, rfl, rfl⟩))) (below_row HB7.out _ _ (by omega))
                    · cases he
                      obtain ⟨q7, c7, rfl⟩ := nodesV_slice (nodesV_of_own hO7)
                      have HB7 : Hid (Below W.heap.size W w7) := Lib.hid (HW6.out.trans (hk7.below (by omega) HW6.out.size))
                      have HZ7 : Hid (w7.heap[W.heap.size + 1]? = some (.cells (keepV (.slice none 0 0) 0) 24)) := Lib.hid ((hk7.block _ (heap_lt HT6.out.2) (by omega)).trans HT6.out.2)
                      have k0 := cell_at (o := 0) hv7 rfl
                      have k1 := cell_at (o := 1) hv7 rfl
                      have HO7 := Lib.hid hO7
                      have HRA7 : Hid (RenAns ns fr tw 0 S) := Lib.hid (.inr (.inr (.inr ⟨HPE.out, HNE.out, hlo, rfl, hS1, hS2⟩)))
                      have HW6s := Lib.hid (Nat.lt_of_lt_of_le (heap_lt HK5.out.2.2.2) HKB6.out.size)
                      clear hlo hk7 hv7 hS1 hS2 hO7 HAN
                      go_wp2_with (refine wpl_store 24 ?_; intro ee he; refine wpList_store_row he _ _ _ ee (W.heap.size + 1) (keepV (.slice q7 S.length c7) nx) rfl rfl 24 (keepV (.slice none 0 0) 0) HZ7.out (tree_size _ _) rfl (tree_one _) ?_)
                      refine bodyPost_ret (res_cell_tmp rfl rfl (row_same HZ7.out) (by kernel_rfl) (tree_size _ _)) rfl ?_
                      exact renPost_mk _ _ S rfl (nodesV_of_own (ownsRow_above HO7.out (row_len _ _ _) (fun k hk => row_ne _ _ _ _ (by have := HW6s.out; omega)))) HRA7.out (below_row HB7.out _ _ (by omega))
                  · have HRA : Hid (RenAns ns fr tw fe ns) := Lib.hid (HBAD.out fe HPRE.out hfz)
                    clear HPRE HBAD HMO HDR
                    go_enter Tryz.func13, Tryz.ntmps13
                    go_upto_region 2 with fail
                    have HF : Hid (∀ w', Below (W.heap.size + 3) (((W.alloc (.cells (keepV (.slice q ns.length c) nx) 24)).alloc (.cells (keepV (.slice none 0 0) 0) 24)).alloc (.cells (keepV (.slice q ns.length c) nx) 54)) w' → Below W.heap.size W w' ∧ w'.heap[W.heap.size]? = some (.cells (keepV (.slice q ns.length c) nx) 24) ∧ w'.heap[W.heap.size + 1]? = some (.cells (keepV (.slice none 0 0) 0) 24) ∧ w'.heap[W.heap.size + 1 + 1]? = some (.cells (keepV (.slice q ns.length c) nx) 54)) := Lib.hid (fun w' h => kept3 h)
                    have HS0 : Hid ((((W.alloc (.cells (keepV (.slice q ns.length c) nx) 24)).alloc (.cells (keepV (.slice none 0 0) 0) 24)).alloc (.cells (keepV (.slice q ns.length c) nx) 54)).heap.size = W.heap.size + 3) := Lib.hid (by simp only [heap_len])
                    generalize hK : (((W.alloc (.cells (keepV (.slice q ns.length c) nx) 24)).alloc (.cells (keepV (.slice none 0 0) 0) 24)).alloc (.cells (keepV (.slice q ns.length c) nx) 54)) = K0 at HF HS0 ⊢
                    clear hK
                    go_upto_region 5 with (first
                      | (go_at_call 26; with_reducible refine (HPF.out _).mono ?_; rintro e w1 ⟨rfl, hb1⟩; rw [HFB.out]; have HB1 : Hid (Below (W.heap.size + 3) K0 w1) := Lib.hid (hb1.mono (by rw [HS0.out]; exact Nat.le_refl _)); have t10 := cell_at (o := 0) (HF.out _ HB1.out).2.1 rfl; have t11 := cell_at (o := 1) (HF.out _ HB1.out).2.1 rfl; have HZ1 := Lib.hid (HF.out _ HB1.out).2.2.1; clear hb1)
                      | (go_at_call 26; with_reducible refine (HPT.out _).mono ?_; rintro e w2 ⟨rfl, hb2⟩; rw [HTB.out]; have HB2 : Hid (Below (W.heap.size + 3) K0 w2) := Lib.hid (HB1.out.trans (hb2.mono (by have := HB1.out.size; have := HS0.out; omega))); have t20 := cell_at (o := 0) (HF.out _ HB2.out).2.1 rfl; have t21 := cell_at (o := 1) (HF.out _ HB2.out).2.1 rfl; have HZ2 := Lib.hid (HF.out _ HB2.out).2.2.1; clear hb2)
                      | (go_at_call 25; refine (HFI.out _ _ (HF.out _ HB2.out).1 (HF.out _ HB2.out).2.2.2).mono ?_; rintro e w3 ⟨rfl, hb3⟩; have HB3 : Hid (Below (W.heap.size + 3) K0 w3) := Lib.hid (HB2.out.trans (hb3.mono (by have := HB2.out.size; have := HS0.out; omega))); clear hb3))
                    clear t10 t11 t20 t21 HZ1 HZ2
                    have HA : Hid (∀ o, Below (W.heap.size + 3) K0 (w3.alloc o)) := Lib.hid (fun o => HB3.out.alloc (by have := HB3.out.size; have := HS0.out; omega) _)
                    have HAZ := Lib.hid (fun o => HF.out _ (HA.out o))
                    have t0 := fun o => cell_at (o := 0) (HAZ.out o).2.1 rfl
                    have t1 := fun o => cell_at (o := 1) (HAZ.out o).2.1 rfl
                    have HZ := Lib.hid (HAZ.out (.cells (nodeV x) 28)).2.2.1
                    go_wp2_with (first
                      | (go_at_call 32; refine (HBE.out _).mono ?_; rintro e wb ⟨rfl, rfl⟩)
                      | (go_at_call 28; refine (HPA.out _ _ (HAZ.out _).1 (HAZ.out _).2.2.2).mono ?_; rintro e w4 ⟨rfl, hb4⟩; have HX4 := Lib.hid ((hb4.block w3.heap.size (by simp only [heap_len]; omega)).trans (heap_new w3 (.cells (nodeV x) 28) _ rfl)); have HB4 : Hid (Below (W.heap.size + 3) K0 w4) := Lib.hid ((HA.out _).trans (hb4.mono (by have := HB3.out.size; have := HS0.out; simp only [heap_len]; omega))); have t40 := cell_at (o := 0) (HF.out _ HB4.out).2.1 rfl; have t41 := cell_at (o := 1) (HF.out _ HB4.out).2.1 rfl; have HZ4 := Lib.hid (HF.out _ HB4.out).2.2.1; have z0 := cell_at (o := 0) HX4.out rfl; have z1 := cell_at (o := 1) HX4.out rfl; have z2 := cell_at (o := 2) HX4.out rfl; have z3 := cell_at (o := 3) HX4.out rfl; clear hb4)
                      | (go_at_call 33; refine (HFR.out _ _ (HF.out _ HB4.out).1 (HF.out _ HB4.out).2.2.2).mono ?_; rintro e w5 ⟨rfl, hb5⟩; have HB5 : Hid (Below (W.heap.size + 3) K0 w5) := Lib.hid (HB4.out.trans (hb5.mono (by have := HB4.out.size; have := HS0.out; omega))); have t50 := cell_at (o := 0) (HF.out _ HB5.out).2.1 rfl; have t51 := cell_at (o := 1) (HF.out _ HB5.out).2.1 rfl; have HZ5 := Lib.hid (HF.out _ HB5.out).2.2.1; clear hb5)
                      | (refine wpl_store 24 ?_; intro ee he; refine wpList_store_row he _ _ _ ee (W.heap.size + 1) (keepV (.slice q ns.length c) nx) rfl rfl 24 (keepV (.slice none 0 0) 0) HZ5.out (tree_size _ _) rfl (tree_one _) ?_))
                    refine bodyPost_ret (res_cell_tmp rfl rfl (row_same HZ5.out) (by kernel_rfl) (tree_size _ _)) rfl ?_
                    exact renPost_mk _ _ ns rfl (NodesV.below HN.out (below_row (HF.out _ HB5.out).1 _ _ (by omega))) HRA.out (below_row (HF.out _ HB5.out).1 _ _ (by omega))
                · have HRA : Hid (RenAns ns fr tw 0 ns) := Lib.hid (.inr (.inl ⟨HPRE.out.trans (if_pos (beq_iff_eq.1 e4)), beq_iff_eq.1 e4, rfl, rfl⟩))
                  rw [e4] at hft
                  clear e4 HPRE HBAD HMO HDR HFR HNEV
                  go_enter Tryz.func13, Tryz.ntmps13
                  go_upto_region 2 with fail
                  have HF : Hid (∀ w', Below (W.heap.size + 3) (((W.alloc (.cells (keepV (.slice q ns.length c) nx) 24)).alloc (.cells (keepV (.slice none 0 0) 0) 24)).alloc (.cells (keepV (.slice q ns.length c) nx) 54)) w' → Below W.heap.size W w' ∧ w'.heap[W.heap.size]? = some (.cells (keepV (.slice q ns.length c) nx) 24) ∧ w'.heap[W.heap.size + 1]? = some (.cells (keepV (.slice none 0 0) 0) 24) ∧ w'.heap[W.heap.size + 1 + 1]? = some (.cells (keepV (.slice q ns.length c) nx) 54)) := Lib.hid (fun w' h => kept3 h)
                  have HS0 : Hid ((((W.alloc (.cells (keepV (.slice q ns.length c) nx) 24)).alloc (.cells (keepV (.slice none 0 0) 0) 24)).alloc (.cells (keepV (.slice q ns.length c) nx) 54)).heap.size = W.heap.size + 3) := Lib.hid (by simp only [heap_len])
                  generalize hK : (((W.alloc (.cells (keepV (.slice q ns.length c) nx) 24)).alloc (.cells (keepV (.slice none 0 0) 0) 24)).alloc (.cells (keepV (.slice q ns.length c) nx) 54)) = K0 at HF HS0 ⊢
                  clear hK
                  go_upto_region 5 with (first
                    | (go_at_call 26; with_reducible refine (HPF.out _).mono ?_; rintro e w1 ⟨rfl, hb1⟩; rw [HFB.out]; have HB1 : Hid (Below (W.heap.size + 3) K0 w1) := Lib.hid (hb1.mono (by rw [HS0.out]; exact Nat.le_refl _)); have t10 := cell_at (o := 0) (HF.out _ HB1.out).2.1 rfl; have t11 := cell_at (o := 1) (HF.out _ HB1.out).2.1 rfl; have HZ1 := Lib.hid (HF.out _ HB1.out).2.2.1; clear hb1)
                    | (go_at_call 26; with_reducible refine (HPT.out _).mono ?_; rintro e w2 ⟨rfl, hb2⟩; rw [HTB.out]; have HB2 : Hid (Below (W.heap.size + 3) K0 w2) := Lib.hid (HB1.out.trans (hb2.mono (by have := HB1.out.size; have := HS0.out; omega))); have t20 := cell_at (o := 0) (HF.out _ HB2.out).2.1 rfl; have t21 := cell_at (o := 1) (HF.out _ HB2.out).2.1 rfl; have HZ2 := Lib.hid (HF.out _ HB2.out).2.2.1; clear hb2)
                    | (go_at_call 25; refine (HFI.out _ _ (HF.out _ HB2.out).1 (HF.out _ HB2.out).2.2.2).mono ?_; rintro e w3 ⟨rfl, hb3⟩; have HB3 : Hid (Below (W.heap.size + 3) K0 w3) := Lib.hid (HB2.out.trans (hb3.mono (by have := HB2.out.size; have := HS0.out; omega))); clear hb3))
                  clear t10 t11 t20 t21 HZ1 HZ2
                  have HA : Hid (∀ o, Below (W.heap.size + 3) K0 (w3.alloc o)) := Lib.hid (fun o => HB3.out.alloc (by have := HB3.out.size; have := HS0.out; omega) _)
                  have HAZ := Lib.hid (fun o => HF.out _ (HA.out o))
                  have t0 := fun o => cell_at (o := 0) (HAZ.out o).2.1 rfl
                  have t1 := fun o => cell_at (o := 1) (HAZ.out o).2.1 rfl
                  have HZ := Lib.hid (HAZ.out (.cells (nodeV x) 28)).2.2.1
                  go_wp2_with (first
                    | (go_at_call 32; refine (HBE.out _).mono ?_; rintro e wb ⟨rfl, rfl⟩)
                    | (go_at_call 28; refine (HPA.out _ _ (HAZ.out _).1 (HAZ.out _).2.2.2).mono ?_; rintro e w4 ⟨rfl, hb4⟩; have HX4 := Lib.hid ((hb4.block w3.heap.size (by simp only [heap_len]; omega)).trans (heap_new w3 (.cells (nodeV x) 28) _ rfl)); have HB4 : Hid (Below (W.heap.size + 3) K0 w4) := Lib.hid ((HA.out _).trans (hb4.mono (by have := HB3.out.size; have := HS0.out; simp only [heap_len]; omega))); have t40 := cell_at (o := 0) (HF.out _ HB4.out).2.1 rfl; have t41 := cell_at (o := 1) (HF.out _ HB4.out).2.1 rfl; have HZ4 := Lib.hid (HF.out _ HB4.out).2.2.1; have z0 := cell_at (o := 0) HX4.out rfl; have z1 := cell_at (o := 1) HX4.out rfl; have z2 := cell_at (o := 2) HX4.out rfl; have z3 := cell_at (o := 3) HX4.out rfl; clear hb4)
                    | (refine wpl_store 24 ?_; intro ee he; refine wpList_store_row he _ _ _ ee (W.heap.size + 1) (keepV (.slice q ns.length c) nx) rfl rfl 24 (keepV (.slice none 0 0) 0) HZ4.out (tree_size _ _) rfl (tree_one _) ?_))
                  refine bodyPost_ret (res_cell_tmp rfl rfl (row_same HZ4.out) (by kernel_rfl) (tree_size _ _)) rfl ?_
                  exact renPost_mk _ _ ns rfl (NodesV.below HN.out (below_row (HF.out _ HB4.out).1 _ _ (by omega))) HRA.out (below_row (HF.out _ HB4.out).1 _ _ (by omega))
              · have HRA : Hid (RenAns ns fr tw (parentE ns tw) ns) := Lib.hid (HBAD.out _ (HPRE.out.trans (if_neg hpe)) hpe)
                clear HPRE HBAD HMO HDR HFR HNEV
                generalize parentE ns tw = pe at HPA hpe HRA
                go_enter Tryz.func13, Tryz.ntmps13
                go_upto_region 2 with fail
                have HF : Hid (∀ w', Below (W.heap.size + 3) (((W.alloc (.cells (keepV (.slice q ns.length c) nx) 24)).alloc (.cells (keepV (.slice none 0 0) 0) 24)).alloc (.cells (keepV (.slice q ns.length c) nx) 54)) w' → Below W.heap.size W w' ∧ w'.heap[W.heap.size]? = some (.cells (keepV (.slice q ns.length c) nx) 24) ∧ w'.heap[W.heap.size + 1]? = some (.cells (keepV (.slice none 0 0) 0) 24) ∧ w'.heap[W.heap.size + 1 + 1]? = some (.cells (keepV (.slice q ns.length c) nx) 54)) := Lib.hid (fun w' h => kept3 h)
                have HS0 : Hid ((((W.alloc (.cells (keepV (.slice q ns.length c) nx) 24)).alloc (.cells (keepV (.slice none 0 0) 0) 24)).alloc (.cells (keepV (.slice q ns.length c) nx) 54)).heap.size = W.heap.size + 3) := Lib.hid (by simp only [heap_len])
                generalize hK : (((W.alloc (.cells (keepV (.slice q ns.length c) nx) 24)).alloc (.cells (keepV (.slice none 0 0) 0) 24)).alloc (.cells (keepV (.slice q ns.length c) nx) 54)) = K0 at HF HS0 ⊢
                clear hK
                go_upto_region 5 with (first
                  | (go_at_call 26; with_reducible refine (HPF.out _).mono ?_; rintro e w1 ⟨rfl, hb1⟩; rw [HFB.out]; have HB1 : Hid (Below (W.heap.size + 3) K0 w1) := Lib.hid (hb1.mono (by rw [HS0.out]; exact Nat.le_refl _)); have t10 := cell_at (o := 0) (HF.out _ HB1.out).2.1 rfl; have t11 := cell_at (o := 1) (HF.out _ HB1.out).2.1 rfl; have HZ1 := Lib.hid (HF.out _ HB1.out).2.2.1; clear hb1)
                  | (go_at_call 26; with_reducible refine (HPT.out _).mono ?_; rintro e w2 ⟨rfl, hb2⟩; rw [HTB.out]; have HB2 : Hid (Below (W.heap.size + 3) K0 w2) := Lib.hid (HB1.out.trans (hb2.mono (by have := HB1.out.size; have := HS0.out; omega))); have t20 := cell_at (o := 0) (HF.out _ HB2.out).2.1 rfl; have t21 := cell_at (o := 1) (HF.out _ HB2.out).2.1 rfl; have HZ2 := Lib.hid (HF.out _ HB2.out).2.2.1; clear hb2)
                  | (go_at_call 25; refine (HFI.out _ _ (HF.out _ HB2.out).1 (HF.out _ HB2.out).2.2.2).mono ?_; rintro e w3 ⟨rfl, hb3⟩; have HB3 : Hid (Below (W.heap.size + 3) K0 w3) := Lib.hid (HB2.out.trans (hb3.mono (by have := HB2.out.size; have := HS0.out; omega))); clear hb3))
                clear t10 t11 t20 t21 HZ1 HZ2
                have HA : Hid (∀ o, Below (W.heap.size + 3) K0 (w3.alloc o)) := Lib.hid (fun o => HB3.out.alloc (by have := HB3.out.size; have := HS0.out; omega) _)
                have HAZ := Lib.hid (fun o => HF.out _ (HA.out o))
                have t0 := fun o => cell_at (o := 0) (HAZ.out o).2.1 rfl
                have t1 := fun o => cell_at (o := 1) (HAZ.out o).2.1 rfl
                have HZ := Lib.hid (HAZ.out (.cells (nodeV x) 28)).2.2.1
                go_wp2_with (first
                  | (go_at_call 32; refine (HBE.out _).mono ?_; rintro e wb ⟨rfl, rfl⟩)
                  | (go_at_call 28; refine (HPA.out _ _ (HAZ.out _).1 (HAZ.out _).2.2.2).mono ?_; rintro e w4 ⟨rfl, hb4⟩; have HX4 := Lib.hid ((hb4.block w3.heap.size (by simp only [heap_len]; omega)).trans (heap_new w3 (.cells (nodeV x) 28) _ rfl)); have HB4 : Hid (Below (W.heap.size + 3) K0 w4) := Lib.hid ((HA.out _).trans (hb4.mono (by have := HB3.out.size; have := HS0.out; simp only [heap_len]; omega))); have t40 := cell_at (o := 0) (HF.out _ HB4.out).2.1 rfl; have t41 := cell_at (o := 1) (HF.out _ HB4.out).2.1 rfl; have HZ4 := Lib.hid (HF.out _ HB4.out).2.2.1; have z0 := cell_at (o := 0) HX4.out rfl; have z1 := cell_at (o := 1) HX4.out rfl; have z2 := cell_at (o := 2) HX4.out rfl; have z3 := cell_at (o := 3) HX4.out rfl; clear hb4)
                  | (refine wpl_store 24 ?_; intro ee he; refine wpList_store_row he _ _ _ ee (W.heap.size + 1) (keepV (.slice q ns.length c) nx) rfl rfl 24 (keepV (.slice none 0 0) 0) HZ4.out (tree_size _ _) rfl (tree_one _) ?_))
                refine bodyPost_ret (res_cell_tmp rfl rfl (row_same HZ4.out) (by kernel_rfl) (tree_size _ _)) rfl ?_
                exact renPost_mk _ _ ns rfl (NodesV.below HN.out (below_row (HF.out _ HB4.out).1 _ _ (by omega))) HRA.out (below_row (HF.out _ HB4.out).1 _ _ (by omega))
            · rw [e3] at HBE
              have HRA : Hid (RenAns ns fr tw 22 ns) := Lib.hid (HBAD.out 22 (HPRE.out.trans (if_pos (.inr (.inr e3)))) (by decide))
              clear e3 HPRE HBAD HMO HDR HFR HNEV HPA
              go_enter Tryz.func13, Tryz.ntmps13
              go_upto_region 2 with fail
              have HF : Hid (∀ w', Below (W.heap.size + 3) (((W.alloc (.cells (keepV (.slice q ns.length c) nx) 24)).alloc (.cells (keepV (.slice none 0 0) 0) 24)).alloc (.cells (keepV (.slice q ns.length c) nx) 54)) w' → Below W.heap.size W w' ∧ w'.heap[W.heap.size]? = some (.cells (keepV (.slice q ns.length c) nx) 24) ∧ w'.heap[W.heap.size + 1]? = some (.cells (keepV (.slice none 0 0) 0) 24) ∧ w'.heap[W.heap.size + 1 + 1]? = some (.cells (keepV (.slice q ns.length c) nx) 54)) := Lib.hid (fun w' h => kept3 h)
              have HS0 : Hid ((((W.alloc (.cells (keepV (.slice q ns.length c) nx) 24)).alloc (.cells (keepV (.slice none 0 0) 0) 24)).alloc (.cells (keepV (.slice q ns.length c) nx) 54)).heap.size = W.heap.size + 3) := Lib.hid (by simp only [heap_len])
              generalize hK : (((W.alloc (.cells (keepV (.slice q ns.length c) nx) 24)).alloc (.cells (keepV (.slice none 0 0) 0) 24)).alloc (.cells (keepV (.slice q ns.length c) nx) 54)) = K0 at HF HS0 ⊢
              clear hK
              go_upto_region 5 with (first
                | (go_at_call 26; with_reducible refine (HPF.out _).mono ?_; rintro e w1 ⟨rfl, hb1⟩; rw [HFB.out]; have HB1 : Hid (Below (W.heap.size + 3) K0 w1) := Lib.hid (hb1.mono (by rw [HS0.out]; exact Nat.le_refl _)); have t10 := cell_at (o := 0) (HF.out _ HB1.out).2.1 rfl; have t11 := cell_at (o := 1) (HF.out _ HB1.out).2.1 rfl; have HZ1 := Lib.hid (HF.out _ HB1.out).2.2.1; clear hb1)
                | (go_at_call 26; with_reducible refine (HPT.out _).mono ?_; rintro e w2 ⟨rfl, hb2⟩; rw [HTB.out]; have HB2 : Hid (Below (W.heap.size + 3) K0 w2) := Lib.hid (HB1.out.trans (hb2.mono (by have := HB1.out.size; have := HS0.out; omega))); have t20 := cell_at (o := 0) (HF.out _ HB2.out).2.1 rfl; have t21 := cell_at (o := 1) (HF.out _ HB2.out).2.1 rfl; have HZ2 := Lib.hid (HF.out _ HB2.out).2.2.1; clear hb2)
                | (go_at_call 25; refine (HFI.out _ _ (HF.out _ HB2.out).1 (HF.out _ HB2.out).2.2.2).mono ?_; rintro e w3 ⟨rfl, hb3⟩; have HB3 : Hid (Below (W.heap.size + 3) K0 w3) := Lib.hid (HB2.out.trans (hb3.mono (by have := HB2.out.size; have := HS0.out; omega))); clear hb3))
              clear t10 t11 t20 t21 HZ1 HZ2
              have HA : Hid (∀ o, Below (W.heap.size + 3) K0 (w3.alloc o)) := Lib.hid (fun o => HB3.out.alloc (by have := HB3.out.size; have := HS0.out; omega) _)
              have HAZ := Lib.hid (fun o => HF.out _ (HA.out o))
              have t0 := fun o => cell_at (o := 0) (HAZ.out o).2.1 rfl
              have t1 := fun o => cell_at (o := 1) (HAZ.out o).2.1 rfl
              have HZ := Lib.hid (HAZ.out (.cells (nodeV x) 28)).2.2.1
              go_wp2_with (first
                | (go_at_call 32; refine (HBE.out _).mono ?_; rintro e wb ⟨rfl, rfl⟩)
                | (refine wpl_store 24 ?_; intro ee he; refine wpList_store_row he _ _ _ ee (W.heap.size + 1) (keepV (.slice q ns.length c) nx) rfl rfl 24 (keepV (.slice none 0 0) 0) HZ.out (tree_size _ _) rfl (tree_one _) ?_))
              refine bodyPost_ret (res_cell_tmp rfl rfl (row_same HZ.out) (by kernel_rfl) (tree_size _ _)) rfl ?_
              exact renPost_mk _ _ ns rfl (NodesV.below HN.out (below_row (HAZ.out _).1 _ _ (by omega))) HRA.out (below_row (HAZ.out _).1 _ _ (by omega))
          · rw [e2] at h47t
            have HRA : Hid (RenAns ns fr tw 22 ns) := Lib.hid (HBAD.out 22 (HPRE.out.trans (if_pos (.inr (.inl (beq_iff_eq.1 e2))))) (by decide))
            clear e2 HPRE HBAD HMO HDR HFR HNEV HPA HBE
            go_enter Tryz.func13, Tryz.ntmps13
            go_upto_region 2 with fail
            have HF : Hid (∀ w', Below (W.heap.size + 3) (((W.alloc (.cells (keepV (.slice q ns.length c) nx) 24)).alloc (.cells (keepV (.slice none 0 0) 0) 24)).alloc (.cells (keepV (.slice q ns.length c) nx) 54)) w' → Below W.heap.size W w' ∧ w'.heap[W.heap.size]? = some (.cells (keepV (.slice q ns.length c) nx) 24) ∧ w'.heap[W.heap.size + 1]? = some (.cells (keepV (.slice none 0 0) 0) 24) ∧ w'.heap[W.heap.size + 1 + 1]? = some (.cells (keepV (.slice q ns.length c) nx) 54)) := Lib.hid (fun w' h => kept3 h)
            have HS0 : Hid ((((W.alloc (.cells (keepV (.slice q ns.length c) nx) 24)).alloc (.cells (keepV (.slice none 0 0) 0) 24)).alloc (.cells (keepV (.slice q ns.length c) nx) 54)).heap.size = W.heap.size + 3) := Lib.hid (by simp only [heap_len])
            generalize hK : (((W.alloc (.cells (keepV (.slice q ns.length c) nx) 24)).alloc (.cells (keepV (.slice none 0 0) 0) 24)).alloc (.cells (keepV (.slice q ns.length c) nx) 54)) = K0 at HF HS0 ⊢
            clear hK
            go_upto_region 5 with (first
              | (go_at_call 26; with_reducible refine (HPF.out _).mono ?_; rintro e w1 ⟨rfl, hb1⟩; rw [HFB.out]; have HB1 : Hid (Below (W.heap.size + 3) K0 w1) := Lib.hid (hb1.mono (by rw [HS0.out]; exact Nat.le_refl _)); have t10 := cell_at (o := 0) (HF.out _ HB1.out).2.1 rfl; have t11 := cell_at (o := 1) (HF.out _ HB1.out).2.1 rfl; have HZ1 := Lib.hid (HF.out _ HB1.out).2.2.1; clear hb1)
              | (go_at_call 26; with_reducible refine (HPT.out _).mono ?_; rintro e w2 ⟨rfl, hb2⟩; rw [HTB.out]; have HB2 : Hid (Below (W.heap.size + 3) K0 w2) := Lib.hid (HB1.out.trans (hb2.mono (by have := HB1.out.size; have := HS0.out; omega))); have t20 := cell_at (o := 0) (HF.out _ HB2.out).2.1 rfl; have t21 := cell_at (o := 1) (HF.out _ HB2.out).2.1 rfl; have HZ2 := Lib.hid (HF.out _ HB2.out).2.2.1; clear hb2)
              | (go_at_call 25; refine (HFI.out _ _ (HF.out _ HB2.out).1 (HF.out _ HB2.out).2.2.2).mono ?_; rintro e w3 ⟨rfl, hb3⟩; have HB3 : Hid (Below (W.heap.size + 3) K0 w3) := Lib.hid (HB2.out.trans (hb3.mono (by have := HB2.out.size; have := HS0.out; omega))); clear hb3))
            clear t10 t11 t20 t21 HZ1 HZ2
            have HA : Hid (∀ o, Below (W.heap.size + 3) K0 (w3.alloc o)) := Lib.hid (fun o => HB3.out.alloc (by have := HB3.out.size; have := HS0.out; omega) _)
            have HAZ := Lib.hid (fun o => HF.out _ (HA.out o))
            have t0 := fun o => cell_at (o := 0) (HAZ.out o).2.1 rfl
            have t1 := fun o => cell_at (o := 1) (HAZ.out o).2.1 rfl
            have HZ := Lib.hid (HAZ.out (.cells (nodeV x) 28)).2.2.1
            go_wp2_with (refine wpl_store 24 ?_; intro ee he; refine wpList_store_row he _ _ _ ee (W.heap.size + 1) (keepV (.slice q ns.length c) nx) rfl rfl 24 (keepV (.slice none 0 0) 0) HZ.out (tree_size _ _) rfl (tree_one _) ?_)
            refine bodyPost_ret (res_cell_tmp rfl rfl (row_same HZ.out) (by kernel_rfl) (tree_size _ _)) rfl ?_
            exact renPost_mk _ _ ns rfl (NodesV.below HN.out (below_row (HAZ.out _).1 _ _ (by omega))) HRA.out (below_row (HAZ.out _).1 _ _ (by omega))
        · rw [e1] at h47f
          have HRA : Hid (RenAns ns fr tw 22 ns) := Lib.hid (HBAD.out 22 (HPRE.out.trans (if_pos (.inl (beq_iff_eq.1 e1)))) (by decide))
          clear e1 HPRE HBAD HMO HDR HFR HNEV HPA HBE
          go_enter Tryz.func13, Tryz.ntmps13
          go_upto_region 2 with fail
          have HF : Hid (∀ w', Below (W.heap.size + 3) (((W.alloc (.cells (keepV (.slice q ns.length c) nx) 24)).alloc (.cells (keepV (.slice none 0 0) 0) 24)).alloc (.cells (keepV (.slice q ns.length c) nx) 54)) w' → Below W.heap.size W w' ∧ w'.heap[W.heap.size]? = some (.cells (keepV (.slice q ns.length c) nx) 24) ∧ w'.heap[W.heap.size + 1]? = some (.cells (keepV (.slice none 0 0) 0) 24) ∧ w'.heap[W.heap.size + 1 + 1]? = some (.cells (keepV (.slice q ns.length c) nx) 54)) := Lib.hid (fun w' h => kept3 h)
          have HS0 : Hid ((((W.alloc (.cells (keepV (.slice q ns.length c) nx) 24)).alloc (.cells (keepV (.slice none 0 0) 0) 24)).alloc (.cells (keepV (.slice q ns.length c) nx) 54)).heap.size = W.heap.size + 3) := Lib.hid (by simp only [heap_len])
          generalize hK : (((W.alloc (.cells (keepV (.slice q ns.length c) nx) 24)).alloc (.cells (keepV (.slice none 0 0) 0) 24)).alloc (.cells (keepV (.slice q ns.length c) nx) 54)) = K0 at HF HS0 ⊢
          clear hK
          go_upto_region 5 with (first
            | (go_at_call 26; with_reducible refine (HPF.out _).mono ?_; rintro e w1 ⟨rfl, hb1⟩; rw [HFB.out]; have HB1 : Hid (Below (W.heap.size + 3) K0 w1) := Lib.hid (hb1.mono (by rw [HS0.out]; exact Nat.le_refl _)); have t10 := cell_at (o := 0) (HF.out _ HB1.out).2.1 rfl; have t11 := cell_at (o := 1) (HF.out _ HB1.out).2.1 rfl; have HZ1 := Lib.hid (HF.out _ HB1.out).2.2.1; clear hb1)
            | (go_at_call 26; with_reducible refine (HPT.out _).mono ?_; rintro e w2 ⟨rfl, hb2⟩; rw [HTB.out]; have HB2 : Hid (Below (W.heap.size + 3) K0 w2) := Lib.hid (HB1.out.trans (hb2.mono (by have := HB1.out.size; have := HS0.out; omega))); have t20 := cell_at (o := 0) (HF.out _ HB2.out).2.1 rfl; have t21 := cell_at (o := 1) (HF.out _ HB2.out).2.1 rfl; have HZ2 := Lib.hid (HF.out _ HB2.out).2.2.1; clear hb2)
            | (go_at_call 25; refine (HFI.out _ _ (HF.out _ HB2.out).1 (HF.out _ HB2.out).2.2.2).mono ?_; rintro e w3 ⟨rfl, hb3⟩; have HB3 : Hid (Below (W.heap.size + 3) K0 w3) := Lib.hid (HB2.out.trans (hb3.mono (by have := HB2.out.size; have := HS0.out; omega))); clear hb3))
          clear t10 t11 t20 t21 HZ1 HZ2
          have HA : Hid (∀ o, Below (W.heap.size + 3) K0 (w3.alloc o)) := Lib.hid (fun o => HB3.out.alloc (by have := HB3.out.size; have := HS0.out; omega) _)
          have HAZ := Lib.hid (fun o => HF.out _ (HA.out o))
          have t0 := fun o => cell_at (o := 0) (HAZ.out o).2.1 rfl
          have t1 := fun o => cell_at (o := 1) (HAZ.out o).2.1 rfl
          have HZ := Lib.hid (HAZ.out (.cells (nodeV x) 28)).2.2.1
          go_wp2_with (refine wpl_store 24 ?_; intro ee he; refine wpList_store_row he _ _ _ ee (W.heap.size + 1) (keepV (.slice q ns.length c) nx) rfl rfl 24 (keepV (.slice none 0 0) 0) HZ.out (tree_size _ _) rfl (tree_one _) ?_)
          refine bodyPost_ret (res_cell_tmp rfl rfl (row_same HZ.out) (by kernel_rfl) (tree_size _ _)) rfl ?_
          exact renPost_mk _ _ ns rfl (NodesV.below HN.out (below_row (HAZ.out _).1 _ _ (by omega))) HRA.out (below_row (HAZ.out _).1 _ _ (by omega))
      · have HRA : Hid (RenAns ns fr tw (findE ns fr) ns) := Lib.hid (HBAD.out _ (HPRE.out.trans (if_neg hfe)) hfe)
        clear HPRE HBAD HMO HDR HFR HNEV HPA HBE
        generalize findE ns fr = fe at HFI hfe HRA
        go_enter Tryz.func13, Tryz.ntmps13
        go_upto_region 2 with fail
        have HF : Hid (∀ w', Below (W.heap.size + 3) (((W.alloc (.cells (keepV (.slice q ns.length c) nx) 24)).alloc (.cells (keepV (.slice none 0 0) 0) 24)).alloc (.cells (keepV (.slice q ns.length c) nx) 54)) w' → Below W.heap.size W w' ∧ w'.heap[W.heap.size]? = some (.cells (keepV (.slice q ns.length c) nx) 24) ∧ w'.heap[W.heap.size + 1]? = some (.cells (keepV (.slice none 0 0) 0) 24) ∧ w'.heap[W.heap.size + 1 + 1]? = some (.cells (keepV (.slice q ns.length c) nx) 54)) := Lib.hid (fun w' h => kept3 h)
        have HS0 : Hid ((((W.alloc (.cells (keepV (.slice q ns.length c) nx) 24)).alloc (.cells (keepV (.slice none 0 0) 0) 24)).alloc (.cells (keepV (.slice q ns.length c) nx) 54)).heap.size = W.heap.size + 3) := Lib.hid (by simp only [heap_len])
        generalize hK : (((W.alloc (.cells (keepV (.slice q ns.length c) nx) 24)).alloc (.cells (keepV (.slice none 0 0) 0) 24)).alloc (.cells (keepV (.slice q ns.length c) nx) 54)) = K0 at HF HS0 ⊢
        clear hK
        go_upto_region 5 with (first
          | (go_at_call 26; with_reducible refine (HPF.out _).mono ?_; rintro e w1 ⟨rfl, hb1⟩; rw [HFB.out]; have HB1 : Hid (Below (W.heap.size + 3) K0 w1) := Lib.hid (hb1.mono (by rw [HS0.out]; exact Nat.le_refl _)); have t10 := cell_at (o := 0) (HF.out _ HB1.out).2.1 rfl; have t11 := cell_at (o := 1) (HF.out _ HB1.out).2.1 rfl; have HZ1 := Lib.hid (HF.out _ HB1.out).2.2.1; clear hb1)
          | (go_at_call 26; with_reducible refine (HPT.out _).mono ?_; rintro e w2 ⟨rfl, hb2⟩; rw [HTB.out]; have HB2 : Hid (Below (W.heap.size + 3) K0 w2) := Lib.hid (HB1.out.trans (hb2.mono (by have := HB1.out.size; have := HS0.out; omega))); have t20 := cell_at (o := 0) (HF.out _ HB2.out).2.1 rfl; have t21 := cell_at (o := 1) (HF.out _ HB2.out).2.1 rfl; have HZ2 := Lib.hid (HF.out _ HB2.out).2.2.1; clear hb2)
          | (go_at_call 25; refine (HFI.out _ _ (HF.out _ HB2.out).1 (HF.out _ HB2.out).2.2.2).mono ?_; rintro e w3 ⟨rfl, hb3⟩; have HB3 : Hid (Below (W.heap.size + 3) K0 w3) := Lib.hid (HB2.out.trans (hb3.mono (by have := HB2.out.size; have := HS0.out; omega))); clear hb3))
        clear t10 t11 t20 t21 HZ1 HZ2
        have HA : Hid (∀ o, Below (W.heap.size + 3) K0 (w3.alloc o)) := Lib.hid (fun o => HB3.out.alloc (by have := HB3.out.size; have := HS0.out; omega) _)
        have HAZ := Lib.hid (fun o => HF.out _ (HA.out o))
        have t0 := fun o => cell_at (o := 0) (HAZ.out o).2.1 rfl
        have t1 := fun o => cell_at (o := 1) (HAZ.out o).2.1 rfl
        have HZ := Lib.hid (HAZ.out (.cells (nodeV x) 28)).2.2.1
        go_wp2_with (refine wpl_store 24 ?_; intro ee he; refine wpList_store_row he _ _ _ ee (W.heap.size + 1) (keepV (.slice q ns.length c) nx) rfl rfl 24 (keepV (.slice none 0 0) 0) HZ.out (tree_size _ _) rfl (tree_one _) ?_)
        refine bodyPost_ret (res_cell_tmp rfl rfl (row_same HZ.out) (by kernel_rfl) (tree_size _ _)) rfl ?_
        exact renPost_mk _ _ ns rfl (NodesV.below HN.out (below_row (HAZ.out _).1 _ _ (by omega))) HRA.out (below_row (HAZ.out _).1 _ _ (by omega))
end Go.Proofs.YtlpgandflkabcaaGreatDoor
