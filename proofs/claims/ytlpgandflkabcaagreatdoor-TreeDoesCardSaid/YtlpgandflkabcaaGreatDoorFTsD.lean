/-
  By the document: a fit tree is told to be one; Fit's answer for every tree.
-/
import Derived.Test.YtlpgandflkabcaaGreatDoorFTrZ
namespace Go.Proofs.YtlpgandflkabcaaGreatDoor
open Go Go.RowKit Go.Shelf
set_option linter.unusedVariables false
set_option linter.unusedSimpArgs false

set_option maxRecDepth 100000 in
set_option maxHeartbeats 8000000 in
theorem fit_yes (ns : List NodeD) (nx : Int) (hfit : FitT ns nx) (v : Value) (W : World) (hN : NodesV W v ns) :
    Calls Tryz.prog 7 #[.agg (keepV v nx)] W fun e w' => e = .returned (.bool true) ∧ Below W.heap.size W w' := by
  obtain ⟨q, c, rfl, hN0⟩ := hN
  have hlen := hfit.one
  have hl1 : (1 : Int) ≤ ns.length := by omega
  have hl2 : (ns.length : Int) ≤ 40 := by have := hfit.forty; omega
  have HL40 : Hid (ns.length ≤ 40) := Lib.hid hfit.forty
  have hn := hfit.next
  obtain ⟨b, off, rfl, hrow⟩ := hN0 (nonil (Nat.lt_of_lt_of_le Nat.zero_lt_one hlen))
  have c0 := (hrow.below ((Below.refl W.heap.size W).alloc (Nat.le_refl _) (.cells (keepV (.slice (some ⟨b, off, none⟩) ns.length c) nx) 24))).c0 0 hlen
  have c1 := (hrow.below ((Below.refl W.heap.size W).alloc (Nat.le_refl _) (.cells (keepV (.slice (some ⟨b, off, none⟩) ns.length c) nx) 24))).c1 0 hlen
  rw [Nat.zero_mul, Nat.add_zero] at c0 c1
  have HR := Lib.hid hrow
  have h1 : ((mkB ns[0].path).toList == [47]) = true := by rw [mkB_toList, hfit.root]; rfl
  rw [hfit.dir] at c1
  have HF := Lib.hid hfit
  clear hN0 hrow hfit
  go_enter Tryz.func7, Tryz.ntmps7
  go_wp2
  go_loopw [4] (fun i wr => ∃ k : Nat, k ≤ ns.length ∧ i = .int .i64 k ∧ Hid (Below (W.heap.size + 1) (W.alloc (.cells (keepV (.slice (some ⟨b, off, none⟩) ns.length c) nx) 24)) wr)) (fun i wr => ns.length - (intOf i).toNat)
  case atStart => exact ⟨0, Nat.zero_le _, rfl, Lib.hid (Below.refl _ _)⟩
  case round =>
    obtain ⟨k, hk, rfl, HB⟩ := hrel
    have HBW : Hid (Below W.heap.size W wr) := Lib.hid (((Below.refl _ _).alloc (Nat.le_refl _) _).trans (HB.out.mono (by omega)))
    have HT : Hid (wr.heap[W.heap.size]? = some (.cells (keepV (.slice (some ⟨b, off, none⟩) ns.length c) nx) 24)) := Lib.hid ((HB.out.block _ (by omega)).trans (heap_new _ _ _ rfl))
    have HLT : Hid (W.heap.size + 1 ≤ wr.heap.size) := Lib.hid (by have := HB.out.size; rwa [heap_len] at this)
    clear c0 c1 h1
    by_cases hlt : k < ns.length
    · have hrow2 := HR.out.below HBW.out
      have c0 := hrow2.c0 k hlt
      have c1 := hrow2.c1 k hlt
      have c2 := hrow2.c2 k hlt
      have c3 := hrow2.c3 k hlt
      have t0 := cell_at (o := 0) HT.out rfl
      clear hrow2
      go_upto_region 8 with fail
      obtain ⟨W1, hW1⟩ : ∃ W1, W1 = wr.alloc (.cells (nodeV ns[k]) 28) := ⟨_, rfl⟩
      have H1 : Hid (W1.heap[wr.heap.size]? = some (.cells (nodeV ns[k]) 28)) := Lib.hid (by rw [hW1]; exact heap_new _ _ _ rfl)
      have HB1 : Hid (Below (W.heap.size + 1) (W.alloc (.cells (keepV (.slice (some ⟨b, off, none⟩) ns.length c) nx) 24)) W1) := Lib.hid (by rw [hW1]; exact HB.out.alloc HLT.out _)
      have HBW1 : Hid (Below W.heap.size W W1) := Lib.hid (by rw [hW1]; exact HBW.out.alloc HBW.out.size _)
      have HT1 : Hid (W1.heap[W.heap.size]? = some (.cells (keepV (.slice (some ⟨b, off, none⟩) ns.length c) nx) 24)) := Lib.hid ((HB1.out.block _ (by omega)).trans (heap_new _ _ _ rfl))
      rw [← hW1]
      clear hW1 t0 c0 c1 c2 c3
      have x0 : ∀ s : Grown W1, s.w.cell? ⟨wr.heap.size, 0, none⟩ = some (.string (mkB ns[k].path)) := Grown.cell (o := 0) H1.out rfl
      have x1 : ∀ s : Grown W1, s.w.cell? ⟨wr.heap.size, 1, none⟩ = some (.bool ns[k].dir) := Grown.cell (o := 1) H1.out rfl
      have x2 : ∀ s : Grown W1, s.w.cell? ⟨wr.heap.size, 2, none⟩ = some (.string (mkB ns[k].data)) := Grown.cell (o := 2) H1.out rfl
      have x3 : ∀ s : Grown W1, s.w.cell? ⟨wr.heap.size, 3, none⟩ = some (.int .i64 ns[k].id) := Grown.cell (o := 3) H1.out rfl
      have y0 : ∀ s : Grown W1, s.w.cell? ⟨W.heap.size, 0, none⟩ = some (.slice (some ⟨b, off, none⟩) ns.length c) := Grown.cell (o := 0) HT1.out rfl
      have y1 : ∀ s : Grown W1, s.w.cell? ⟨W.heap.size, 1, none⟩ = some (.int .i64 nx) := Grown.cell (o := 1) HT1.out rfl
      have HP : Hid (∀ s : Grown W1, Calls Tryz.prog 19 #[.string (mkB ns[k].path)] s.w fun e w' => e = .returned (.bool true) ∧ w' = s.w) := Lib.hid (fun s => by
        have := rpath_any ns[k].path s.w (by have := path_len (HF.out.all k hlt).path; omega)
        rw [(HF.out.all k hlt).path] at this
        exact this)
      have z2 := mkB_size ns[k].data
      have z3 : ((mkB ns[k].data).toList == []) = (ns[k].data == []) := by rw [mkB_toList]
      have z4 : (mkB ns[k].data).toList.isEmpty = (ns[k].data == []) := by rw [mkB_toList]; cases ns[k].data <;> rfl
      have b1 : decide ((32768 : Int) < (ns[k].data.length : Int)) = false := decide_eq_false (by have := (HF.out.all k hlt).data; omega)
      have b5 : decide (ns[k].id < 0) = false := decide_eq_false (Int.not_lt.2 (HF.out.all k hlt).low)
      have b6 : decide (nx ≤ ns[k].id) = false := decide_eq_false (Int.not_le.2 (HF.out.all k hlt).high)
      have HEM : Hid (ns[k].dir = true → ns[k].data = []) := Lib.hid (HF.out.all k hlt).empty
      have HPT : Hid (pathB ns[k].path = true) := Lib.hid (HF.out.all k hlt).path
      have HHO : Hid (∃ j, ∃ hj : j < ns.length, placeS ns (dirP ns[k].path) = j ∧ ns[j].dir = true) := Lib.hid (HF.out.all k hlt).home
      have HFR : Hid (∀ j (hj : j < k), ns[j].id ≠ ns[k].id) := Lib.hid (HF.out.all k hlt).fresh
      have HRS : Hid (∀ q (hq : q + 1 = k), ns[q].path < ns[k].path) := Lib.hid (HF.out.all k hlt).rise
      rcases Nat.eq_zero_or_pos k with hk0 | hk0
      · subst hk0
        cases hdir : ns[0].dir
        · rw [hdir] at x1
          clear hdir
          (refine wp_region_grown (by kernel_rfl) (by kernel_rfl) ?_; (repeat (go_big_quiet_step ((go_at_call 19; with_reducible exact Calls.grown_same (HP.out _))))); refine wpQuiet_nil ?_; intro _ hw'; obtain ⟨sG, hw''⟩ := hw'; subst hw'')
          go_wp2
          obtain ⟨W2, hW2⟩ : ∃ W2, W2 = sG.w := ⟨_, rfl⟩
          have HT2 : Hid (W2.heap[W.heap.size]? = some (.cells (keepV (.slice (some ⟨b, off, none⟩) ns.length c) nx) 24)) := Lib.hid (by rw [hW2]; exact Grown.row HT1.out sG)
          have H2 : Hid (W2.heap[wr.heap.size]? = some (.cells (nodeV ns[0]) 28)) := Lib.hid (by rw [hW2]; exact Grown.row H1.out sG)
          have HB2 : Hid (Below (W.heap.size + 1) (W.alloc (.cells (keepV (.slice (some ⟨b, off, none⟩) ns.length c) nx) 24)) W2) := Lib.hid (by rw [hW2]; exact HB1.out.trans (sG.below.mono (by have := HB1.out.size; rwa [heap_len] at this)))
          have HBW2 : Hid (Below W.heap.size W W2) := Lib.hid (by rw [hW2]; exact HBW1.out.trans (sG.below.mono HBW1.out.size))
          rw [← hW2]
          clear hW2 x0 x1 x2 x3 y0 y1 sG HP
          obtain ⟨G, hG⟩ : ∃ G, G = wr.heap.size := ⟨_, rfl⟩
          rw [← hG] at H2 ⊢
          clear hG
          have x0 : ∀ s : Grown W2, s.w.cell? ⟨G, 0, none⟩ = some (.string (mkB ns[0].path)) := Grown.cell (o := 0) H2.out rfl
          have HDO : Hid (∀ s : Grown W2, Calls Tryz.prog 21 #[.string (mkB ns[0].path)] s.w fun e w' => e = .returned (.string (mkB (dirP ns[0].path))) ∧ w' = s.w) := Lib.hid (fun s => dirOf_any _ HPT.out s.w)
          have HPL : Hid (∀ s : Grown W2, Calls Tryz.prog 20 #[.agg (keepV (.slice (some ⟨b, off, none⟩) ns.length c) nx), .string (mkB (dirP ns[0].path))] s.w fun e w' => e = .returned (.int .i64 (placeS ns (dirP ns[0].path))) ∧ Below s.w.heap.size s.w w') := Lib.hid (fun s => place_any ns (by omega) _ _ nx s.w ⟨_, _, rfl, fun _ => ⟨b, off, rfl, HR.out.below (HBW2.out.trans (s.below.mono HBW2.out.size))⟩⟩)
          obtain ⟨j, hj, hpl2, hjd⟩ := HHO.out
          rw [hpl2] at HPL
          clear hpl2
          have hji : (j : Int) < ns.length := by omega
          (refine wp_region_grown (by kernel_rfl) (by kernel_rfl) ?_; (repeat (first | go_big_quiet_step ((first | (go_at_call 21; with_reducible exact Calls.grown_same (HDO.out _)) | (go_at_call 20; with_reducible exact Calls.grown (HPL.out _)))) | (go_big_quiet_want; refine quiet_load_row 24 (.tmp 1) (keepV (.slice (some ⟨b, off, none⟩) ns.length c) nx) rfl rfl HT2.out (by kernel_rfl) (tree_size _ _) ?_; go_big_quiet_on; (try simp only [Act.put, List.getElem_toArray, List.getElem_cons_succ, List.getElem_cons_zero, List.setIfInBounds_toArray, List.set_cons_zero, List.set_cons_succ])))); refine wpQuiet_nil ?_; intro _ hw'; obtain ⟨sG, hw''⟩ := hw'; subst hw'')
          have HB3 : Hid (Below W2.heap.size W2 sG.w) := Lib.hid sG.below
          obtain ⟨W3, hW3⟩ : ∃ W3, W3 = sG.w := ⟨_, rfl⟩
          rw [← hW3] at HB3 ⊢
          clear hW3 sG x0 HDO HPL
          have HBW3 : Hid (Below W.heap.size W W3) := Lib.hid (HBW2.out.trans (HB3.out.mono HBW2.out.size))
          have HBT3 : Hid (Below (W.heap.size + 1) (W.alloc (.cells (keepV (.slice (some ⟨b, off, none⟩) ns.length c) nx) 24)) W3) := Lib.hid (HB2.out.trans (HB3.out.mono (by have := HB2.out.size; rwa [heap_len] at this)))
          have HT3 : Hid (W3.heap[W.heap.size]? = some (.cells (keepV (.slice (some ⟨b, off, none⟩) ns.length c) nx) 24)) := Lib.hid ((HB3.out.block _ (heap_lt HT2.out)).trans HT2.out)
          have H3 : Hid (W3.heap[G]? = some (.cells (nodeV ns[0]) 28)) := Lib.hid ((HB3.out.block _ (heap_lt H2.out)).trans H2.out)
          have y0 := cell_at (o := 0) HT3.out rfl
          have c1 := (HR.out.below HBW3.out).c1 j hj
          rw [hjd] at c1
          clear hjd
          go_wp2
          clear c1 y0 hji
          go_loopw [7] (fun i wr => ∃ m : Nat, m ≤ 0 ∧ i = .int .i64 m ∧ Hid (Below W3.heap.size W3 wr)) (fun i _ => (0) - (intOf i).toNat)
          case atStart => exact ⟨0, Nat.zero_le _, rfl, Lib.hid (Below.refl _ _)⟩
          case round =>
            obtain ⟨m, hm, rfl, HBZ⟩ := hrel
            have HBWZ : Hid (Below W.heap.size W wr) := Lib.hid (HBW3.out.trans (HBZ.out.mono HBW3.out.size))
            have HBTZ : Hid (Below (W.heap.size + 1) (W.alloc (.cells (keepV (.slice (some ⟨b, off, none⟩) ns.length c) nx) 24)) wr) := Lib.hid (HBT3.out.trans (HBZ.out.mono (by have := HBT3.out.size; rwa [heap_len] at this)))
            by_cases hmk : m < 0
            · exact absurd hmk (Nat.not_lt_zero _)
            · obtain rfl : m = 0 := by omega
              go_wp2
              go_roundw
              case rel => exact ⟨0 + 1, by omega, by go_num, HBTZ⟩
              case measure => simp [intOf]; omega
        · rw [hdir] at x1
          have hem : (ns[0].data == []) = true := beq_iff_eq.2 (HEM.out hdir)
          rw [hem] at z3 z4
          clear hdir
          (refine wp_region_grown (by kernel_rfl) (by kernel_rfl) ?_; (repeat (go_big_quiet_step ((go_at_call 19; with_reducible exact Calls.grown_same (HP.out _))))); refine wpQuiet_nil ?_; intro _ hw'; obtain ⟨sG, hw''⟩ := hw'; subst hw'')
          go_wp2
          obtain ⟨W2, hW2⟩ : ∃ W2, W2 = sG.w := ⟨_, rfl⟩
          have HT2 : Hid (W2.heap[W.heap.size]? = some (.cells (keepV (.slice (some ⟨b, off, none⟩) ns.length c) nx) 24)) := Lib.hid (by rw [hW2]; exact Grown.row HT1.out sG)
          have H2 : Hid (W2.heap[wr.heap.size]? = some (.cells (nodeV ns[0]) 28)) := Lib.hid (by rw [hW2]; exact Grown.row H1.out sG)
          have HB2 : Hid (Below (W.heap.size + 1) (W.alloc (.cells (keepV (.slice (some ⟨b, off, none⟩) ns.length c) nx) 24)) W2) := Lib.hid (by rw [hW2]; exact HB1.out.trans (sG.below.mono (by have := HB1.out.size; rwa [heap_len] at this)))
          have HBW2 : Hid (Below W.heap.size W W2) := Lib.hid (by rw [hW2]; exact HBW1.out.trans (sG.below.mono HBW1.out.size))
          rw [← hW2]
          clear hW2 x0 x1 x2 x3 y0 y1 sG HP
          obtain ⟨G, hG⟩ : ∃ G, G = wr.heap.size := ⟨_, rfl⟩
          rw [← hG] at H2 ⊢
          clear hG
          have x0 : ∀ s : Grown W2, s.w.cell? ⟨G, 0, none⟩ = some (.string (mkB ns[0].path)) := Grown.cell (o := 0) H2.out rfl
          have HDO : Hid (∀ s : Grown W2, Calls Tryz.prog 21 #[.string (mkB ns[0].path)] s.w fun e w' => e = .returned (.string (mkB (dirP ns[0].path))) ∧ w' = s.w) := Lib.hid (fun s => dirOf_any _ HPT.out s.w)
          have HPL : Hid (∀ s : Grown W2, Calls Tryz.prog 20 #[.agg (keepV (.slice (some ⟨b, off, none⟩) ns.length c) nx), .string (mkB (dirP ns[0].path))] s.w fun e w' => e = .returned (.int .i64 (placeS ns (dirP ns[0].path))) ∧ Below s.w.heap.size s.w w') := Lib.hid (fun s => place_any ns (by omega) _ _ nx s.w ⟨_, _, rfl, fun _ => ⟨b, off, rfl, HR.out.below (HBW2.out.trans (s.below.mono HBW2.out.size))⟩⟩)
          obtain ⟨j, hj, hpl2, hjd⟩ := HHO.out
          rw [hpl2] at HPL
          clear hpl2
          have hji : (j : Int) < ns.length := by omega
          (refine wp_region_grown (by kernel_rfl) (by kernel_rfl) ?_; (repeat (first | go_big_quiet_step ((first | (go_at_call 21; with_reducible exact Calls.grown_same (HDO.out _)) | (go_at_call 20; with_reducible exact Calls.grown (HPL.out _)))) | (go_big_quiet_want; refine quiet_load_row 24 (.tmp 1) (keepV (.slice (some ⟨b, off, none⟩) ns.length c) nx) rfl rfl HT2.out (by kernel_rfl) (tree_size _ _) ?_; go_big_quiet_on; (try simp only [Act.put, List.getElem_toArray, List.getElem_cons_succ, List.getElem_cons_zero, List.setIfInBounds_toArray, List.set_cons_zero, List.set_cons_succ])))); refine wpQuiet_nil ?_; intro _ hw'; obtain ⟨sG, hw''⟩ := hw'; subst hw'')
          have HB3 : Hid (Below W2.heap.size W2 sG.w) := Lib.hid sG.below
          obtain ⟨W3, hW3⟩ : ∃ W3, W3 = sG.w := ⟨_, rfl⟩
          rw [← hW3] at HB3 ⊢
          clear hW3 sG x0 HDO HPL
          have HBW3 : Hid (Below W.heap.size W W3) := Lib.hid (HBW2.out.trans (HB3.out.mono HBW2.out.size))
          have HBT3 : Hid (Below (W.heap.size + 1) (W.alloc (.cells (keepV (.slice (some ⟨b, off, none⟩) ns.length c) nx) 24)) W3) := Lib.hid (HB2.out.trans (HB3.out.mono (by have := HB2.out.size; rwa [heap_len] at this)))
          have HT3 : Hid (W3.heap[W.heap.size]? = some (.cells (keepV (.slice (some ⟨b, off, none⟩) ns.length c) nx) 24)) := Lib.hid ((HB3.out.block _ (heap_lt HT2.out)).trans HT2.out)
          have H3 : Hid (W3.heap[G]? = some (.cells (nodeV ns[0]) 28)) := Lib.hid ((HB3.out.block _ (heap_lt H2.out)).trans H2.out)
          have y0 := cell_at (o := 0) HT3.out rfl
          have c1 := (HR.out.below HBW3.out).c1 j hj
          rw [hjd] at c1
          clear hjd
          go_wp2
          clear c1 y0 hji
          go_loopw [7] (fun i wr => ∃ m : Nat, m ≤ 0 ∧ i = .int .i64 m ∧ Hid (Below W3.heap.size W3 wr)) (fun i _ => (0) - (intOf i).toNat)
          case atStart => exact ⟨0, Nat.zero_le _, rfl, Lib.hid (Below.refl _ _)⟩
          case round =>
            obtain ⟨m, hm, rfl, HBZ⟩ := hrel
            have HBWZ : Hid (Below W.heap.size W wr) := Lib.hid (HBW3.out.trans (HBZ.out.mono HBW3.out.size))
            have HBTZ : Hid (Below (W.heap.size + 1) (W.alloc (.cells (keepV (.slice (some ⟨b, off, none⟩) ns.length c) nx) 24)) wr) := Lib.hid (HBT3.out.trans (HBZ.out.mono (by have := HBT3.out.size; rwa [heap_len] at this)))
            by_cases hmk : m < 0
            · exact absurd hmk (Nat.not_lt_zero _)
            · obtain rfl : m = 0 := by omega
              go_wp2
              go_roundw
              case rel => exact ⟨0 + 1, by omega, by go_num, HBTZ⟩
              case measure => simp [intOf]; omega
      · obtain ⟨q, rfl⟩ : ∃ q, k = q + 1 := ⟨k - 1, by omega⟩
        have hql : q < ns.length := by omega
        have b0 : decide ((0 : Int) < (q : Int) + 1) = true := decide_eq_true (by omega)
        have p0 : ∀ s : Grown W1, s.w.cell? ⟨b, off + q * 4, none⟩ = some (.string (mkB ns[q].path)) := fun s => (HR.out.below (HBW1.out.trans (s.below.mono HBW1.out.size))).c0 q hql
        have hless := less_any ns[q].path ns[q + 1].path
        rw [decide_eq_true (HRS.out q rfl)] at hless
        clear hk0
        cases hdir : ns[q + 1].dir
        · rw [hdir] at x1
          clear hdir
          (refine wp_region_grown (by kernel_rfl) (by kernel_rfl) ?_; (repeat (go_big_quiet_step ((go_at_call 19; with_reducible exact Calls.grown_same (HP.out _))))); refine wpQuiet_nil ?_; intro _ hw'; obtain ⟨sG, hw''⟩ := hw'; subst hw'')
          go_wp2
          obtain ⟨W2, hW2⟩ : ∃ W2, W2 = sG.w := ⟨_, rfl⟩
          have HT2 : Hid (W2.heap[W.heap.size]? = some (.cells (keepV (.slice (some ⟨b, off, none⟩) ns.length c) nx) 24)) := Lib.hid (by rw [hW2]; exact Grown.row HT1.out sG)
          have H2 : Hid (W2.heap[wr.heap.size]? = some (.cells (nodeV ns[q + 1]) 28)) := Lib.hid (by rw [hW2]; exact Grown.row H1.out sG)
          have HB2 : Hid (Below (W.heap.size + 1) (W.alloc (.cells (keepV (.slice (some ⟨b, off, none⟩) ns.length c) nx) 24)) W2) := Lib.hid (by rw [hW2]; exact HB1.out.trans (sG.below.mono (by have := HB1.out.size; rwa [heap_len] at this)))
          have HBW2 : Hid (Below W.heap.size W W2) := Lib.hid (by rw [hW2]; exact HBW1.out.trans (sG.below.mono HBW1.out.size))
          rw [← hW2]
          clear hW2 x0 x1 x2 x3 y0 y1 sG HP
          obtain ⟨G, hG⟩ : ∃ G, G = wr.heap.size := ⟨_, rfl⟩
          rw [← hG] at H2 ⊢
          clear hG
          have x0 : ∀ s : Grown W2, s.w.cell? ⟨G, 0, none⟩ = some (.string (mkB ns[q + 1].path)) := Grown.cell (o := 0) H2.out rfl
          have HDO : Hid (∀ s : Grown W2, Calls Tryz.prog 21 #[.string (mkB ns[q + 1].path)] s.w fun e w' => e = .returned (.string (mkB (dirP ns[q + 1].path))) ∧ w' = s.w) := Lib.hid (fun s => dirOf_any _ HPT.out s.w)
          have HPL : Hid (∀ s : Grown W2, Calls Tryz.prog 20 #[.agg (keepV (.slice (some ⟨b, off, none⟩) ns.length c) nx), .string (mkB (dirP ns[q + 1].path))] s.w fun e w' => e = .returned (.int .i64 (placeS ns (dirP ns[q + 1].path))) ∧ Below s.w.heap.size s.w w') := Lib.hid (fun s => place_any ns (by omega) _ _ nx s.w ⟨_, _, rfl, fun _ => ⟨b, off, rfl, HR.out.below (HBW2.out.trans (s.below.mono HBW2.out.size))⟩⟩)
          obtain ⟨j, hj, hpl2, hjd⟩ := HHO.out
          rw [hpl2] at HPL
          clear hpl2
          have hji : (j : Int) < ns.length := by omega
          (refine wp_region_grown (by kernel_rfl) (by kernel_rfl) ?_; (repeat (first | go_big_quiet_step ((first | (go_at_call 21; with_reducible exact Calls.grown_same (HDO.out _)) | (go_at_call 20; with_reducible exact Calls.grown (HPL.out _)))) | (go_big_quiet_want; refine quiet_load_row 24 (.tmp 1) (keepV (.slice (some ⟨b, off, none⟩) ns.length c) nx) rfl rfl HT2.out (by kernel_rfl) (tree_size _ _) ?_; go_big_quiet_on; (try simp only [Act.put, List.getElem_toArray, List.getElem_cons_succ, List.getElem_cons_zero, List.setIfInBounds_toArray, List.set_cons_zero, List.set_cons_succ])))); refine wpQuiet_nil ?_; intro _ hw'; obtain ⟨sG, hw''⟩ := hw'; subst hw'')
          have HB3 : Hid (Below W2.heap.size W2 sG.w) := Lib.hid sG.below
          obtain ⟨W3, hW3⟩ : ∃ W3, W3 = sG.w := ⟨_, rfl⟩
          rw [← hW3] at HB3 ⊢
          clear hW3 sG x0 HDO HPL
          have HBW3 : Hid (Below W.heap.size W W3) := Lib.hid (HBW2.out.trans (HB3.out.mono HBW2.out.size))
          have HBT3 : Hid (Below (W.heap.size + 1) (W.alloc (.cells (keepV (.slice (some ⟨b, off, none⟩) ns.length c) nx) 24)) W3) := Lib.hid (HB2.out.trans (HB3.out.mono (by have := HB2.out.size; rwa [heap_len] at this)))
          have HT3 : Hid (W3.heap[W.heap.size]? = some (.cells (keepV (.slice (some ⟨b, off, none⟩) ns.length c) nx) 24)) := Lib.hid ((HB3.out.block _ (heap_lt HT2.out)).trans HT2.out)
          have H3 : Hid (W3.heap[G]? = some (.cells (nodeV ns[q + 1]) 28)) := Lib.hid ((HB3.out.block _ (heap_lt H2.out)).trans H2.out)
          have y0 := cell_at (o := 0) HT3.out rfl
          have c1 := (HR.out.below HBW3.out).c1 j hj
          rw [hjd] at c1
          clear hjd
          go_wp2
          clear c1 y0 hji
          go_loopw [7] (fun i wr => ∃ m : Nat, m ≤ q + 1 ∧ i = .int .i64 m ∧ Hid (Below W3.heap.size W3 wr)) (fun i _ => (q + 1) - (intOf i).toNat)
          case atStart => exact ⟨0, Nat.zero_le _, rfl, Lib.hid (Below.refl _ _)⟩
          case round =>
            obtain ⟨m, hm, rfl, HBZ⟩ := hrel
            have HBWZ : Hid (Below W.heap.size W wr) := Lib.hid (HBW3.out.trans (HBZ.out.mono HBW3.out.size))
            have HBTZ : Hid (Below (W.heap.size + 1) (W.alloc (.cells (keepV (.slice (some ⟨b, off, none⟩) ns.length c) nx) 24)) wr) := Lib.hid (HBT3.out.trans (HBZ.out.mono (by have := HBT3.out.size; rwa [heap_len] at this)))
            by_cases hmk : m < q + 1
            · have hml : m < ns.length := by omega
              have hmi : (m : Int) < (ns.length : Int) := by omega
              have HTZ : Hid (wr.heap[W.heap.size]? = some (.cells (keepV (.slice (some ⟨b, off, none⟩) ns.length c) nx) 24)) := Lib.hid ((HBZ.out.block _ (heap_lt HT3.out)).trans HT3.out)
              have HZ : Hid (wr.heap[G]? = some (.cells (nodeV ns[q + 1]) 28)) := Lib.hid ((HBZ.out.block _ (heap_lt H3.out)).trans H3.out)
              have y0 : ∀ s : Grown wr, s.w.cell? ⟨W.heap.size, 0, none⟩ = some (.slice (some ⟨b, off, none⟩) ns.length c) := Grown.cell (o := 0) HTZ.out rfl
              have x3 : ∀ s : Grown wr, s.w.cell? ⟨G, 3, none⟩ = some (.int .i64 ns[q + 1].id) := Grown.cell (o := 3) HZ.out rfl
              have p3 : ∀ s : Grown wr, s.w.cell? ⟨b, off + m * 4 + 3, none⟩ = some (.int .i64 ns[m].id) := fun s => (HR.out.below (HBWZ.out.trans (s.below.mono HBWZ.out.size))).c3 m hml
              have he : (ns[m].id == ns[q + 1].id) = false := beq_eq_false_iff_ne.2 (HFR.out m hmk)
              go_upto_region 16 with fail
              (refine wp_region_grown (by kernel_rfl) (by kernel_rfl) ?_; (repeat (go_big_quiet_step (fail))); refine wpQuiet_nil ?_; intro _ hw'; obtain ⟨sG, hw''⟩ := hw'; subst hw'')
              go_wp2
              go_roundw
              case rel => exact ⟨m + 1, by omega, by go_num, Lib.hid (HBZ.out.trans (sG.below.mono HBZ.out.size))⟩
              case measure => simp [intOf]; omega
            · obtain rfl : m = q + 1 := by omega
              go_wp2
              go_roundw
              case rel => exact ⟨q + 1 + 1, by omega, by go_num, HBTZ⟩
              case measure => simp [intOf]; omega
        · rw [hdir] at x1
          have hem : (ns[q + 1].data == []) = true := beq_iff_eq.2 (HEM.out hdir)
          rw [hem] at z3 z4
          clear hdir
          (refine wp_region_grown (by kernel_rfl) (by kernel_rfl) ?_; (repeat (go_big_quiet_step ((go_at_call 19; with_reducible exact Calls.grown_same (HP.out _))))); refine wpQuiet_nil ?_; intro _ hw'; obtain ⟨sG, hw''⟩ := hw'; subst hw'')
          go_wp2
          obtain ⟨W2, hW2⟩ : ∃ W2, W2 = sG.w := ⟨_, rfl⟩
          have HT2 : Hid (W2.heap[W.heap.size]? = some (.cells (keepV (.slice (some ⟨b, off, none⟩) ns.length c) nx) 24)) := Lib.hid (by rw [hW2]; exact Grown.row HT1.out sG)
          have H2 : Hid (W2.heap[wr.heap.size]? = some (.cells (nodeV ns[q + 1]) 28)) := Lib.hid (by rw [hW2]; exact Grown.row H1.out sG)
          have HB2 : Hid (Below (W.heap.size + 1) (W.alloc (.cells (keepV (.slice (some ⟨b, off, none⟩) ns.length c) nx) 24)) W2) := Lib.hid (by rw [hW2]; exact HB1.out.trans (sG.below.mono (by have := HB1.out.size; rwa [heap_len] at this)))
          have HBW2 : Hid (Below W.heap.size W W2) := Lib.hid (by rw [hW2]; exact HBW1.out.trans (sG.below.mono HBW1.out.size))
          rw [← hW2]
          clear hW2 x0 x1 x2 x3 y0 y1 sG HP
          obtain ⟨G, hG⟩ : ∃ G, G = wr.heap.size := ⟨_, rfl⟩
          rw [← hG] at H2 ⊢
          clear hG
          have x0 : ∀ s : Grown W2, s.w.cell? ⟨G, 0, none⟩ = some (.string (mkB ns[q + 1].path)) := Grown.cell (o := 0) H2.out rfl
          have HDO : Hid (∀ s : Grown W2, Calls Tryz.prog 21 #[.string (mkB ns[q + 1].path)] s.w fun e w' => e = .returned (.string (mkB (dirP ns[q + 1].path))) ∧ w' = s.w) := Lib.hid (fun s => dirOf_any _ HPT.out s.w)
          have HPL : Hid (∀ s : Grown W2, Calls Tryz.prog 20 #[.agg (keepV (.slice (some ⟨b, off, none⟩) ns.length c) nx), .string (mkB (dirP ns[q + 1].path))] s.w fun e w' => e = .returned (.int .i64 (placeS ns (dirP ns[q + 1].path))) ∧ Below s.w.heap.size s.w w') := Lib.hid (fun s => place_any ns (by omega) _ _ nx s.w ⟨_, _, rfl, fun _ => ⟨b, off, rfl, HR.out.below (HBW2.out.trans (s.below.mono HBW2.out.size))⟩⟩)
          obtain ⟨j, hj, hpl2, hjd⟩ := HHO.out
          rw [hpl2] at HPL
          clear hpl2
          have hji : (j : Int) < ns.length := by omega
          (refine wp_region_grown (by kernel_rfl) (by kernel_rfl) ?_; (repeat (first | go_big_quiet_step ((first | (go_at_call 21; with_reducible exact Calls.grown_same (HDO.out _)) | (go_at_call 20; with_reducible exact Calls.grown (HPL.out _)))) | (go_big_quiet_want; refine quiet_load_row 24 (.tmp 1) (keepV (.slice (some ⟨b, off, none⟩) ns.length c) nx) rfl rfl HT2.out (by kernel_rfl) (tree_size _ _) ?_; go_big_quiet_on; (try simp only [Act.put, List.getElem_toArray, List.getElem_cons_succ, List.getElem_cons_zero, List.setIfInBounds_toArray, List.set_cons_zero, List.set_cons_succ])))); refine wpQuiet_nil ?_; intro _ hw'; obtain ⟨sG, hw''⟩ := hw'; subst hw'')
          have HB3 : Hid (Below W2.heap.size W2 sG.w) := Lib.hid sG.below
          obtain ⟨W3, hW3⟩ : ∃ W3, W3 = sG.w := ⟨_, rfl⟩
          rw [← hW3] at HB3 ⊢
          clear hW3 sG x0 HDO HPL
          have HBW3 : Hid (Below W.heap.size W W3) := Lib.hid (HBW2.out.trans (HB3.out.mono HBW2.out.size))
          have HBT3 : Hid (Below (W.heap.size + 1) (W.alloc (.cells (keepV (.slice (some ⟨b, off, none⟩) ns.length c) nx) 24)) W3) := Lib.hid (HB2.out.trans (HB3.out.mono (by have := HB2.out.size; rwa [heap_len] at this)))
          have HT3 : Hid (W3.heap[W.heap.size]? = some (.cells (keepV (.slice (some ⟨b, off, none⟩) ns.length c) nx) 24)) := Lib.hid ((HB3.out.block _ (heap_lt HT2.out)).trans HT2.out)
          have H3 : Hid (W3.heap[G]? = some (.cells (nodeV ns[q + 1]) 28)) := Lib.hid ((HB3.out.block _ (heap_lt H2.out)).trans H2.out)
          have y0 := cell_at (o := 0) HT3.out rfl
          have c1 := (HR.out.below HBW3.out).c1 j hj
          rw [hjd] at c1
          clear hjd
          go_wp2
          clear c1 y0 hji
          go_loopw [7] (fun i wr => ∃ m : Nat, m ≤ q + 1 ∧ i = .int .i64 m ∧ Hid (Below W3.heap.size W3 wr)) (fun i _ => (q + 1) - (intOf i).toNat)
          case atStart => exact ⟨0, Nat.zero_le _, rfl, Lib.hid (Below.refl _ _)⟩
          case round =>
            obtain ⟨m, hm, rfl, HBZ⟩ := hrel
            have HBWZ : Hid (Below W.heap.size W wr) := Lib.hid (HBW3.out.trans (HBZ.out.mono HBW3.out.size))
            have HBTZ : Hid (Below (W.heap.size + 1) (W.alloc (.cells (keepV (.slice (some ⟨b, off, none⟩) ns.length c) nx) 24)) wr) := Lib.hid (HBT3.out.trans (HBZ.out.mono (by have := HBT3.out.size; rwa [heap_len] at this)))
            by_cases hmk : m < q + 1
            · have hml : m < ns.length := by omega
              have hmi : (m : Int) < (ns.length : Int) := by omega
              have HTZ : Hid (wr.heap[W.heap.size]? = some (.cells (keepV (.slice (some ⟨b, off, none⟩) ns.length c) nx) 24)) := Lib.hid ((HBZ.out.block _ (heap_lt HT3.out)).trans HT3.out)
              have HZ : Hid (wr.heap[G]? = some (.cells (nodeV ns[q + 1]) 28)) := Lib.hid ((HBZ.out.block _ (heap_lt H3.out)).trans H3.out)
              have y0 : ∀ s : Grown wr, s.w.cell? ⟨W.heap.size, 0, none⟩ = some (.slice (some ⟨b, off, none⟩) ns.length c) := Grown.cell (o := 0) HTZ.out rfl
              have x3 : ∀ s : Grown wr, s.w.cell? ⟨G, 3, none⟩ = some (.int .i64 ns[q + 1].id) := Grown.cell (o := 3) HZ.out rfl
              have p3 : ∀ s : Grown wr, s.w.cell? ⟨b, off + m * 4 + 3, none⟩ = some (.int .i64 ns[m].id) := fun s => (HR.out.below (HBWZ.out.trans (s.below.mono HBWZ.out.size))).c3 m hml
              have he : (ns[m].id == ns[q + 1].id) = false := beq_eq_false_iff_ne.2 (HFR.out m hmk)
              go_upto_region 16 with fail
              (refine wp_region_grown (by kernel_rfl) (by kernel_rfl) ?_; (repeat (go_big_quiet_step (fail))); refine wpQuiet_nil ?_; intro _ hw'; obtain ⟨sG, hw''⟩ := hw'; subst hw'')
              go_wp2
              go_roundw
              case rel => exact ⟨m + 1, by omega, by go_num, Lib.hid (HBZ.out.trans (sG.below.mono HBZ.out.size))⟩
              case measure => simp [intOf]; omega
            · obtain rfl : m = q + 1 := by omega
              go_wp2
              go_roundw
              case rel => exact ⟨q + 1 + 1, by omega, by go_num, HBTZ⟩
              case measure => simp [intOf]; omega
    · obtain rfl : k = ns.length := by omega
      go_wp2
      go_ret
      exact ⟨rfl, HBW.out⟩
/-- Fit's answer, whatever the world. -/
theorem fit_is (ns : List NodeD) (hpl : ∀ i (h : i < ns.length), ns[i].path.length ≤ 1000000 ∧ ns[i].data.length ≤ 9223372036854775807 ∧ -9223372036854775808 ≤ ns[i].id ∧ ns[i].id < 9223372036854775808) (nx : Int) (hnx : -9223372036854775808 ≤ nx ∧ nx < 9223372036854775808) :
    ∃ b : Bool, (b = true ↔ FitT ns nx) ∧ ∀ (v : Value) (W : World), NodesV W v ns → Calls Tryz.prog 7 #[.agg (keepV v nx)] W fun e w' => e = .returned (.bool b) ∧ Below W.heap.size W w' := by
  by_cases h : FitT ns nx
  · exact ⟨true, by simp [h], fun v W hN => fit_yes ns nx h v W hN⟩
  · refine ⟨false, by simp [h], fun v W hN => (fit_any ns hpl v nx hnx W hN).mono ?_⟩
    rintro e w' ⟨⟨b, rfl, hb⟩, h2⟩
    refine ⟨?_, h2⟩
    cases b
    · rfl
    · exact absurd (hb rfl) h
end Go.Proofs.YtlpgandflkabcaaGreatDoor
