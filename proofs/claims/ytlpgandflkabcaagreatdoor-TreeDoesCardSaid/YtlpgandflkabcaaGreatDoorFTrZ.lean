/-
  By the document: a fit tree.
-/
import Derived.Test.YtlpgandflkabcaaGreatDoorFTrX
import Derived.Test.YtlpgandflkabcaaGreatDoorFTrD
namespace Go.Proofs.YtlpgandflkabcaaGreatDoor
open Go Go.RowKit Go.Shelf
set_option linter.unusedVariables false
set_option linter.unusedSimpArgs false

structure FitAt (ns : List NodeD) (nx : Int) (i : Nat) (hi : i < ns.length) : Prop where
  path : pathB ns[i].path = true
  rise : ∀ q (hq : q + 1 = i), ns[q].path < ns[i].path
  data : ns[i].data.length ≤ 32768
  empty : ns[i].dir = true → ns[i].data = []
  low : 0 ≤ ns[i].id
  high : ns[i].id < nx
  home : ∃ j, ∃ hj : j < ns.length, placeS ns (dirP ns[i].path) = j ∧ ns[j].dir = true
  fresh : ∀ j (hj : j < i), ns[j].id ≠ ns[i].id
structure FitT (ns : List NodeD) (nx : Int) : Prop where
  one : 1 ≤ ns.length
  forty : ns.length ≤ 40
  next : nx ≤ 1048576
  root : ns[0].path = [47]
  dir : ns[0].dir = true
  all : ∀ i (hi : i < ns.length), FitAt ns nx i hi
def FitAns (ns : List NodeD) (nx : Int) (e : Ending) : Prop := ∃ b, e = .returned (.bool b) ∧ (b = true → FitT ns nx)
theorem fitAns_no {ns : List NodeD} {nx : Int} : FitAns ns nx (.returned (.bool false)) := ⟨false, rfl, fun h => by cases h⟩
theorem fitAns_yes {ns : List NodeD} {nx : Int} (h : FitT ns nx) : FitAns ns nx (.returned (.bool true)) := ⟨true, rfl, fun _ => h⟩
set_option maxRecDepth 100000 in
set_option maxHeartbeats 8000000 in
theorem fit_any (ns : List NodeD) (hpl : ∀ i (h : i < ns.length), ns[i].path.length ≤ 1000000 ∧ ns[i].data.length ≤ 9223372036854775807 ∧ -9223372036854775808 ≤ ns[i].id ∧ ns[i].id < 9223372036854775808) (v : Value) (nx : Int) (hnx : -9223372036854775808 ≤ nx ∧ nx < 9223372036854775808) (W : World) (hN : NodesV W v ns) :
    Calls Tryz.prog 7 #[.agg (keepV v nx)] W fun e w' => FitAns ns nx e ∧ Below W.heap.size W w' := by
  obtain ⟨q, c, rfl, hN0⟩ := hN
  have HF := Lib.hid (And.intro hpl hnx)
  by_cases hlen : 1 ≤ ns.length
  · by_cases hlen2 : ns.length ≤ 40
    · have hl1 : (1 : Int) ≤ ns.length := by omega
      have hl2 : (ns.length : Int) ≤ 40 := by omega
      by_cases hn : nx ≤ 1048576
      · obtain ⟨b, off, rfl, hrow⟩ := hN0 (nonil (Nat.lt_of_lt_of_le Nat.zero_lt_one hlen))
        have c0 := (hrow.below ((Below.refl W.heap.size W).alloc (Nat.le_refl _) (.cells (keepV (.slice (some ⟨b, off, none⟩) ns.length c) nx) 24))).c0 0 hlen
        have c1 := (hrow.below ((Below.refl W.heap.size W).alloc (Nat.le_refl _) (.cells (keepV (.slice (some ⟨b, off, none⟩) ns.length c) nx) 24))).c1 0 hlen
        rw [Nat.zero_mul, Nat.add_zero] at c0 c1
        have HR := Lib.hid hrow
        have h1 : ((mkB ns[0].path).toList == [47]) = (ns[0].path == [47]) := by rw [mkB_toList]
        clear hN0 hrow hpl hnx
        cases e1 : (ns[0].path == [47])
        · rw [e1] at h1
          clear e1
          go_enter Tryz.func7, Tryz.ntmps7
          go_wp2
          go_ret
          exact ⟨fitAns_no, (Below.refl _ _).alloc (Nat.le_refl _) _⟩
        · cases e2 : ns[0].dir
          · rw [e1] at h1
            rw [e2] at c1
            clear e1
            go_enter Tryz.func7, Tryz.ntmps7
            go_wp2
            go_ret
            exact ⟨fitAns_no, (Below.refl _ _).alloc (Nat.le_refl _) _⟩
          · have HE := Lib.hid (And.intro (beq_iff_eq.1 e1) e2)
            rw [e1] at h1
            rw [e2] at c1
            clear e1 e2
            go_enter Tryz.func7, Tryz.ntmps7
            go_wp2
            go_loopw [4] (fun i wr => ∃ k : Nat, k ≤ ns.length ∧ i = .int .i64 k ∧ Hid (Below (W.heap.size + 1) (W.alloc (.cells (keepV (.slice (some ⟨b, off, none⟩) ns.length c) nx) 24)) wr) ∧ Hid (∀ j (hj : j < ns.length), j < k → FitAt ns nx j hj)) (fun i wr => ns.length - (intOf i).toNat)
            case atStart => exact ⟨0, Nat.zero_le _, rfl, Lib.hid (Below.refl _ _), Lib.hid (fun j _ h => absurd h (Nat.not_lt_zero _))⟩
            case round =>
              obtain ⟨k, hk, rfl, HB, HK⟩ := hrel
              have HBW : Hid (Below W.heap.size W wr) := Lib.hid (((Below.refl _ _).alloc (Nat.le_refl _) _).trans (HB.out.mono (by omega)))
              have HT : Hid (wr.heap[W.heap.size]? = some (.cells (keepV (.slice (some ⟨b, off, none⟩) ns.length c) nx) 24)) := Lib.hid ((HB.out.block _ (by omega)).trans (heap_new _ _ _ rfl))
              have HLT : Hid (W.heap.size + 1 ≤ wr.heap.size) := Lib.hid (by have := HB.out.size; rwa [heap_len] at this)
              clear c0 c1 h1
              by_cases hlt : k < ns.length
              · have hrow2 := HR.out.below HBW.out
                have c0 := hrow2.c0 k hlt
                have c1 := hrow2.c1 k hlt
                have c2 := hrow2.c2 k hlt
                have c3 := hrow2.c3 k hlt
                have t0 := cell_at (o := 0) HT.out rfl
                clear hrow2
                go_upto_region 8 with fail
                -- ROUND
                obtain ⟨W1, hW1⟩ : ∃ W1, W1 = wr.alloc (.cells (nodeV ns[k]) 28) := ⟨_, rfl⟩
                have H1 : Hid (W1.heap[wr.heap.size]? = some (.cells (nodeV ns[k]) 28)) := Lib.hid (by rw [hW1]; exact heap_new _ _ _ rfl)
                have HB1 : Hid (Below (W.heap.size + 1) (W.alloc (.cells (keepV (.slice (some ⟨b, off, none⟩) ns.length c) nx) 24)) W1) := Lib.hid (by rw [hW1]; exact HB.out.alloc HLT.out _)
                have HBW1 : Hid (Below W.heap.size W W1) := Lib.hid (by rw [hW1]; exact HBW.out.alloc HBW.out.size _)
                have HT1 : Hid (W1.heap[W.heap.size]? = some (.cells (keepV (.slice (some ⟨b, off, none⟩) ns.length c) nx) 24)) := Lib.hid ((HB1.out.block _ (by omega)).trans (heap_new _ _ _ rfl))
                rw [← hW1]
                clear hW1 t0 c0 c1 c2 c3
                have x0 : ∀ s : Grown W1, s.w.cell? ⟨wr.heap.size, 0, none⟩ = some (.string (mkB ns[k].path)) := Grown.cell (o := 0) H1.out rfl
                have x1 : ∀ s : Grown W1, s.w.cell? ⟨wr.heap.size, 1, none⟩ = some (.bool ns[k].dir) := Grown.cell (o := 1) H1.out rfl
                have x2 : ∀ s : Grown W1, s.w.cell? ⟨wr.heap.size, 2, none⟩ = some (.string (mkB ns[k].data)) := Grown.cell (o := 2) H1.out rfl
                have x3 : ∀ s : Grown W1, s.w.cell? ⟨wr.heap.size, 3, none⟩ = some (.int .i64 ns[k].id) := Grown.cell (o := 3) H1.out rfl
                have y0 : ∀ s : Grown W1, s.w.cell? ⟨W.heap.size, 0, none⟩ = some (.slice (some ⟨b, off, none⟩) ns.length c) := Grown.cell (o := 0) HT1.out rfl
                have y1 : ∀ s : Grown W1, s.w.cell? ⟨W.heap.size, 1, none⟩ = some (.int .i64 nx) := Grown.cell (o := 1) HT1.out rfl
                have HP : Hid (∀ s : Grown W1, Calls Tryz.prog 19 #[.string (mkB ns[k].path)] s.w fun e w' => e = .returned (.bool (pathB ns[k].path)) ∧ w' = s.w) := Lib.hid (fun s => rpath_any _ s.w (HF.out.1 k hlt).1)
                have z2 := mkB_size ns[k].data
                have z3 : ((mkB ns[k].data).toList == []) = (ns[k].data == []) := by rw [mkB_toList]
                have z4 : (mkB ns[k].data).toList.isEmpty = (ns[k].data == []) := by rw [mkB_toList]; cases ns[k].data <;> rfl
                by_cases hpt : pathB ns[k].path = true
                · rw [hpt] at HP
                  have HPT := Lib.hid hpt
                  clear hpt
                  rcases Nat.eq_zero_or_pos k with hk0 | hk0
                  · subst hk0
                    have HRS : Hid (∀ q (hq : q + 1 = 0), ns[q].path < ns[0].path) := Lib.hid (fun q hq => by omega)
                    by_cases hd : ns[0].data.length ≤ 32768
                    · have b1 : decide ((32768 : Int) < (ns[0].data.length : Int)) = false := decide_eq_false (by omega)
                      have HD := Lib.hid hd
                      clear hd
                      cases hdir : ns[0].dir
                      · rw [hdir] at x1
                        have HEM : Hid (ns[0].dir = true → ns[0].data = []) := Lib.hid (fun h => by rw [hdir] at h; cases h)
                        clear hdir
                        by_cases h5 : ns[0].id < 0
                        · have b5 : decide (ns[0].id < 0) = true := decide_eq_true h5
                          clear h5
                          (refine wp_region_grown (by kernel_rfl) (by kernel_rfl) ?_; (repeat (go_big_quiet_step ((go_at_call 19; with_reducible exact Calls.grown_same (HP.out _))))); refine wpQuiet_nil ?_; intro _ hw'; obtain ⟨sG, hw''⟩ := hw'; subst hw'')
                          go_wp2
                          go_ret
                          exact ⟨fitAns_no, HBW1.out.trans (sG.below.mono HBW1.out.size)⟩
                        · have b5 : decide (ns[0].id < 0) = false := decide_eq_false h5
                          have HL : Hid (0 ≤ ns[0].id) := Lib.hid (Int.not_lt.1 h5)
                          clear h5
                          by_cases h6 : nx ≤ ns[0].id
                          · have b6 : decide (nx ≤ ns[0].id) = true := decide_eq_true h6
                            clear h6
                            (refine wp_region_grown (by kernel_rfl) (by kernel_rfl) ?_; (repeat (go_big_quiet_step ((go_at_call 19; with_reducible exact Calls.grown_same (HP.out _))))); refine wpQuiet_nil ?_; intro _ hw'; obtain ⟨sG, hw''⟩ := hw'; subst hw'')
                            go_wp2
                            go_ret
                            exact ⟨fitAns_no, HBW1.out.trans (sG.below.mono HBW1.out.size)⟩
                          · have b6 : decide (nx ≤ ns[0].id) = false := decide_eq_false h6
                            have HH : Hid (ns[0].id < nx) := Lib.hid (Int.not_le.1 h6)
                            clear h6
                            (refine wp_region_grown (by kernel_rfl) (by kernel_rfl) ?_; (repeat (go_big_quiet_step ((go_at_call 19; with_reducible exact Calls.grown_same (HP.out _))))); refine wpQuiet_nil ?_; intro _ hw'; obtain ⟨sG, hw''⟩ := hw'; subst hw'')
                            go_wp2
                            obtain ⟨W2, hW2⟩ : ∃ W2, W2 = sG.w := ⟨_, rfl⟩
                            have HT2 : Hid (W2.heap[W.heap.size]? = some (.cells (keepV (.slice (some ⟨b, off, none⟩) ns.length c) nx) 24)) := Lib.hid (by rw [hW2]; exact Grown.row HT1.out sG)
                            have H2 : Hid (W2.heap[wr.heap.size]? = some (.cells (nodeV ns[0]) 28)) := Lib.hid (by rw [hW2]; exact Grown.row H1.out sG)
                            have HB2 : Hid (Below (W.heap.size + 1) (W.alloc (.cells (keepV (.slice (some ⟨b, off, none⟩) ns.length c) nx) 24)) W2) := Lib.hid (by rw [hW2]; exact HB1.out.trans (sG.below.mono (by have := HB1.out.size; rwa [heap_len] at this)))
                            have HBW2 : Hid (Below W.heap.size W W2) := Lib.hid (by rw [hW2]; exact HBW1.out.trans (sG.below.mono HBW1.out.size))
                            rw [← hW2]
                            clear hW2 x0 x1 x2 x3 y0 y1 sG HP
                            obtain ⟨G, hG⟩ : ∃ G, G = wr.heap.size := ⟨_, rfl⟩
                            rw [← hG] at H2 ⊢
                            clear hG
                            have x0 : ∀ s : Grown W2, s.w.cell? ⟨G, 0, none⟩ = some (.string (mkB ns[0].path)) := Grown.cell (o := 0) H2.out rfl
                            have HDO : Hid (∀ s : Grown W2, Calls Tryz.prog 21 #[.string (mkB ns[0].path)] s.w fun e w' => e = .returned (.string (mkB (dirP ns[0].path))) ∧ w' = s.w) := Lib.hid (fun s => dirOf_any _ HPT.out s.w)
                            have HPL : Hid (∀ s : Grown W2, Calls Tryz.prog 20 #[.agg (keepV (.slice (some ⟨b, off, none⟩) ns.length c) nx), .string (mkB (dirP ns[0].path))] s.w fun e w' => e = .returned (.int .i64 (placeS ns (dirP ns[0].path))) ∧ Below s.w.heap.size s.w w') := Lib.hid (fun s => place_any ns (by omega) _ _ nx s.w ⟨_, _, rfl, fun _ => ⟨b, off, rfl, HR.out.below (HBW2.out.trans (s.below.mono HBW2.out.size))⟩⟩)
                            cases hh : hasS ns (dirP ns[0].path)
                            · rw [placeS_none hh] at HPL
                              clear hh
                              (refine wp_region_grown (by kernel_rfl) (by kernel_rfl) ?_; (repeat (first | go_big_quiet_step ((first | (go_at_call 21; with_reducible exact Calls.grown_same (HDO.out _)) | (go_at_call 20; with_reducible exact Calls.grown (HPL.out _)))) | (go_big_quiet_want; refine quiet_load_row 24 (.tmp 1) (keepV (.slice (some ⟨b, off, none⟩) ns.length c) nx) rfl rfl HT2.out (by kernel_rfl) (tree_size _ _) ?_; go_big_quiet_on; (try simp only [Act.put, List.getElem_toArray, List.getElem_cons_succ, List.getElem_cons_zero, List.setIfInBounds_toArray, List.set_cons_zero, List.set_cons_succ])))); refine wpQuiet_nil ?_; intro _ hw'; obtain ⟨sG, hw''⟩ := hw'; subst hw'')
                              go_wp2
                              go_ret
                              exact ⟨fitAns_no, HBW2.out.trans (sG.below.mono HBW2.out.size)⟩
                            · obtain ⟨j, hj, hpl2, hjp⟩ := placeS_some hh
                              rw [hpl2] at HPL
                              have HPS := Lib.hid hpl2
                              clear hh hpl2 hjp
                              have hji : (j : Int) < ns.length := by omega
                              (refine wp_region_grown (by kernel_rfl) (by kernel_rfl) ?_; (repeat (first | go_big_quiet_step ((first | (go_at_call 21; with_reducible exact Calls.grown_same (HDO.out _)) | (go_at_call 20; with_reducible exact Calls.grown (HPL.out _)))) | (go_big_quiet_want; refine quiet_load_row 24 (.tmp 1) (keepV (.slice (some ⟨b, off, none⟩) ns.length c) nx) rfl rfl HT2.out (by kernel_rfl) (tree_size _ _) ?_; go_big_quiet_on; (try simp only [Act.put, List.getElem_toArray, List.getElem_cons_succ, List.getElem_cons_zero, List.setIfInBounds_toArray, List.set_cons_zero, List.set_cons_succ])))); refine wpQuiet_nil ?_; intro _ hw'; obtain ⟨sG, hw''⟩ := hw'; subst hw'')
                              have HB3 : Hid (Below W2.heap.size W2 sG.w) := Lib.hid sG.below
                              obtain ⟨W3, hW3⟩ : ∃ W3, W3 = sG.w := ⟨_, rfl⟩
                              rw [← hW3] at HB3 ⊢
                              clear hW3 sG x0 HDO HPL
                              have HBW3 : Hid (Below W.heap.size W W3) := Lib.hid (HBW2.out.trans (HB3.out.mono HBW2.out.size))
                              have HBT3 : Hid (Below (W.heap.size + 1) (W.alloc (.cells (keepV (.slice (some ⟨b, off, none⟩) ns.length c) nx) 24)) W3) := Lib.hid (HB2.out.trans (HB3.out.mono (by have := HB2.out.size; rwa [heap_len] at this)))
                              have HT3 : Hid (W3.heap[W.heap.size]? = some (.cells (keepV (.slice (some ⟨b, off, none⟩) ns.length c) nx) 24)) := Lib.hid ((HB3.out.block _ (heap_lt HT2.out)).trans HT2.out)
                              have H3 : Hid (W3.heap[G]? = some (.cells (nodeV ns[0]) 28)) := Lib.hid ((HB3.out.block _ (heap_lt H2.out)).trans H2.out)
                              have y0 := cell_at (o := 0) HT3.out rfl
                              have c1 := (HR.out.below HBW3.out).c1 j hj
                              cases hjd : ns[j].dir
                              · rw [hjd] at c1
                                clear hjd
                                go_wp2
                                go_ret
                                exact ⟨fitAns_no, HBW3.out⟩
                              · rw [hjd] at c1
                                have HHO : Hid (∃ j, ∃ hj : j < ns.length, placeS ns (dirP ns[0].path) = j ∧ ns[j].dir = true) := Lib.hid ⟨j, hj, HPS.out, hjd⟩
                                clear hjd
                                go_wp2
                                clear c1 y0 hji
                                go_loopw [7] (fun i wr => ∃ m : Nat, m ≤ 0 ∧ i = .int .i64 m ∧ Hid (Below W3.heap.size W3 wr) ∧ Hid (∀ j (hj : j < m) (h : j < ns.length), ns[j].id ≠ ns[0].id)) (fun i _ => (0) - (intOf i).toNat)
                                case atStart => exact ⟨0, Nat.zero_le _, rfl, Lib.hid (Below.refl _ _), Lib.hid (fun j h => absurd h (Nat.not_lt_zero _))⟩
                                case round =>
                                  obtain ⟨m, hm, rfl, HBZ, HMZ⟩ := hrel
                                  have HBWZ : Hid (Below W.heap.size W wr) := Lib.hid (HBW3.out.trans (HBZ.out.mono HBW3.out.size))
                                  have HBTZ : Hid (Below (W.heap.size + 1) (W.alloc (.cells (keepV (.slice (some ⟨b, off, none⟩) ns.length c) nx) 24)) wr) := Lib.hid (HBT3.out.trans (HBZ.out.mono (by have := HBT3.out.size; rwa [heap_len] at this)))
                                  by_cases hmk : m < 0
                                  · exact absurd hmk (Nat.not_lt_zero _)
                                  · obtain rfl : m = 0 := by omega
                                    have HAT : Hid (FitAt ns nx (0) hlt) := Lib.hid ⟨HPT.out, HRS.out, HD.out, HEM.out, HL.out, HH.out, HHO.out, fun j hj => HMZ.out j hj (by omega)⟩
                                    go_wp2
                                    go_roundw
                                    case rel => exact ⟨0 + 1, by omega, by go_num, HBTZ, Lib.hid (fun j hj hjk => by
                                      rcases Nat.lt_or_eq_of_le (Nat.le_of_lt_succ hjk) with h1 | rfl
                                      · exact HK.out j hj h1
                                      · exact HAT.out)⟩
                                    case measure => simp [intOf]; omega
                      · rw [hdir] at x1
                        clear hdir
                        cases hem : (ns[0].data == [])
                        · rw [hem] at z3 z4
                          clear hem
                          (refine wp_region_grown (by kernel_rfl) (by kernel_rfl) ?_; (repeat (go_big_quiet_step ((go_at_call 19; with_reducible exact Calls.grown_same (HP.out _))))); refine wpQuiet_nil ?_; intro _ hw'; obtain ⟨sG, hw''⟩ := hw'; subst hw'')
                          go_wp2
                          go_ret
                          exact ⟨fitAns_no, HBW1.out.trans (sG.below.mono HBW1.out.size)⟩
                        · have HEM : Hid (ns[0].dir = true → ns[0].data = []) := Lib.hid (fun _ => beq_iff_eq.1 hem)
                          rw [hem] at z3 z4
                          clear hem
                          by_cases h5 : ns[0].id < 0
                          · have b5 : decide (ns[0].id < 0) = true := decide_eq_true h5
                            clear h5
                            (refine wp_region_grown (by kernel_rfl) (by kernel_rfl) ?_; (repeat (go_big_quiet_step ((go_at_call 19; with_reducible exact Calls.grown_same (HP.out _))))); refine wpQuiet_nil ?_; intro _ hw'; obtain ⟨sG, hw''⟩ := hw'; subst hw'')
                            go_wp2
                            go_ret
                            exact ⟨fitAns_no, HBW1.out.trans (sG.below.mono HBW1.out.size)⟩
                          · have b5 : decide (ns[0].id < 0) = false := decide_eq_false h5
                            have HL : Hid (0 ≤ ns[0].id) := Lib.hid (Int.not_lt.1 h5)
                            clear h5
                            by_cases h6 : nx ≤ ns[0].id
                            · have b6 : decide (nx ≤ ns[0].id) = true := decide_eq_true h6
                              clear h6
                              (refine wp_region_grown (by kernel_rfl) (by kernel_rfl) ?_; (repeat (go_big_quiet_step ((go_at_call 19; with_reducible exact Calls.grown_same (HP.out _))))); refine wpQuiet_nil ?_; intro _ hw'; obtain ⟨sG, hw''⟩ := hw'; subst hw'')
                              go_wp2
                              go_ret
                              exact ⟨fitAns_no, HBW1.out.trans (sG.below.mono HBW1.out.size)⟩
                            · have b6 : decide (nx ≤ ns[0].id) = false := decide_eq_false h6
                              have HH : Hid (ns[0].id < nx) := Lib.hid (Int.not_le.1 h6)
                              clear h6
                              (refine wp_region_grown (by kernel_rfl) (by kernel_rfl) ?_; (repeat (go_big_quiet_step ((go_at_call 19; with_reducible exact Calls.grown_same (HP.out _))))); refine wpQuiet_nil ?_; intro _ hw'; obtain ⟨sG, hw''⟩ := hw'; subst hw'')
                              go_wp2
                              obtain ⟨W2, hW2⟩ : ∃ W2, W2 = sG.w := ⟨_, rfl⟩
                              have HT2 : Hid (W2.heap[W.heap.size]? = some (.cells (keepV (.slice (some ⟨b, off, none⟩) ns.length c) nx) 24)) := Lib.hid (by rw [hW2]; exact Grown.row HT1.out sG)
                              have H2 : Hid (W2.heap[wr.heap.size]? = some (.cells (nodeV ns[0]) 28)) := Lib.hid (by rw [hW2]; exact Grown.row H1.out sG)
                              have HB2 : Hid (Below (W.heap.size + 1) (W.alloc (.cells (keepV (.slice (some ⟨b, off, none⟩) ns.length c) nx) 24)) W2) := Lib.hid (by rw [hW2]; exact HB1.out.trans (sG.below.mono (by have := HB1.out.size; rwa [heap_len] at this)))
                              have HBW2 : Hid (Below W.heap.size W W2) := Lib.hid (by rw [hW2]; exact HBW1.out.trans (sG.below.mono HBW1.out.size))
                              rw [← hW2]
                              clear hW2 x0 x1 x2 x3 y0 y1 sG HP
                              obtain ⟨G, hG⟩ : ∃ G, G = wr.heap.size := ⟨_, rfl⟩
                              rw [← hG] at H2 ⊢
                              clear hG
                              have x0 : ∀ s : Grown W2, s.w.cell? ⟨G, 0, none⟩ = some (.string (mkB ns[0].path)) := Grown.cell (o := 0) H2.out rfl
                              have HDO : Hid (∀ s : Grown W2, Calls Tryz.prog 21 #[.string (mkB ns[0].path)] s.w fun e w' => e = .returned (.string (mkB (dirP ns[0].path))) ∧ w' = s.w) := Lib.hid (fun s => dirOf_any _ HPT.out s.w)
                              have HPL : Hid (∀ s : Grown W2, Calls Tryz.prog 20 #[.agg (keepV (.slice (some ⟨b, off, none⟩) ns.length c) nx), .string (mkB (dirP ns[0].path))] s.w fun e w' => e = .returned (.int .i64 (placeS ns (dirP ns[0].path))) ∧ Below s.w.heap.size s.w w') := Lib.hid (fun s => place_any ns (by omega) _ _ nx s.w ⟨_, _, rfl, fun _ => ⟨b, off, rfl, HR.out.below (HBW2.out.trans (s.below.mono HBW2.out.size))⟩⟩)
                              cases hh : hasS ns (dirP ns[0].path)
                              · rw [placeS_none hh] at HPL
                                clear hh
                                (refine wp_region_grown (by kernel_rfl) (by kernel_rfl) ?_; (repeat (first | go_big_quiet_step ((first | (go_at_call 21; with_reducible exact Calls.grown_same (HDO.out _)) | (go_at_call 20; with_reducible exact Calls.grown (HPL.out _)))) | (go_big_quiet_want; refine quiet_load_row 24 (.tmp 1) (keepV (.slice (some ⟨b, off, none⟩) ns.length c) nx) rfl rfl HT2.out (by kernel_rfl) (tree_size _ _) ?_; go_big_quiet_on; (try simp only [Act.put, List.getElem_toArray, List.getElem_cons_succ, List.getElem_cons_zero, List.setIfInBounds_toArray, List.set_cons_zero, List.set_cons_succ])))); refine wpQuiet_nil ?_; intro _ hw'; obtain ⟨sG, hw''⟩ := hw'; subst hw'')
                                go_wp2
                                go_ret
                                exact ⟨fitAns_no, HBW2.out.trans (sG.below.mono HBW2.out.size)⟩
                              · obtain ⟨j, hj, hpl2, hjp⟩ := placeS_some hh
                                rw [hpl2] at HPL
                                have HPS := Lib.hid hpl2
                                clear hh hpl2 hjp
                                have hji : (j : Int) < ns.length := by omega
                                (refine wp_region_grown (by kernel_rfl) (by kernel_rfl) ?_; (repeat (first | go_big_quiet_step ((first | (go_at_call 21; with_reducible exact Calls.grown_same (HDO.out _)) | (go_at_call 20; with_reducible exact Calls.grown (HPL.out _)))) | (go_big_quiet_want; refine quiet_load_row 24 (.tmp 1) (keepV (.slice (some ⟨b, off, none⟩) ns.length c) nx) rfl rfl HT2.out (by kernel_rfl) (tree_size _ _) ?_; go_big_quiet_on; (try simp only [Act.put, List.getElem_toArray, List.getElem_cons_succ, List.getElem_cons_zero, List.setIfInBounds_toArray, List.set_cons_zero, List.set_cons_succ])))); refine wpQuiet_nil ?_; intro _ hw'; obtain ⟨sG, hw''⟩ := hw'; subst hw'')
                                have HB3 : Hid (Below W2.heap.size W2 sG.w) := Lib.hid sG.below
                                obtain ⟨W3, hW3⟩ : ∃ W3, W3 = sG.w := ⟨_, rfl⟩
                                rw [← hW3] at HB3 ⊢
                                clear hW3 sG x0 HDO HPL
                                have HBW3 : Hid (Below W.heap.size W W3) := Lib.hid (HBW2.out.trans (HB3.out.mono HBW2.out.size))
                                have HBT3 : Hid (Below (W.heap.size + 1) (W.alloc (.cells (keepV (.slice (some ⟨b, off, none⟩) ns.length c) nx) 24)) W3) := Lib.hid (HB2.out.trans (HB3.out.mono (by have := HB2.out.size; rwa [heap_len] at this)))
                                have HT3 : Hid (W3.heap[W.heap.size]? = some (.cells (keepV (.slice (some ⟨b, off, none⟩) ns.length c) nx) 24)) := Lib.hid ((HB3.out.block _ (heap_lt HT2.out)).trans HT2.out)
                                have H3 : Hid (W3.heap[G]? = some (.cells (nodeV ns[0]) 28)) := Lib.hid ((HB3.out.block _ (heap_lt H2.out)).trans H2.out)
                                have y0 := cell_at (o := 0) HT3.out rfl
                                have c1 := (HR.out.below HBW3.out).c1 j hj
                                cases hjd : ns[j].dir
                                · rw [hjd] at c1
                                  clear hjd
                                  go_wp2
                                  go_ret
                                  exact ⟨fitAns_no, HBW3.out⟩
                                · rw [hjd] at c1
                                  have HHO : Hid (∃ j, ∃ hj : j < ns.length, placeS ns (dirP ns[0].path) = j ∧ ns[j].dir = true) := Lib.hid ⟨j, hj, HPS.out, hjd⟩
                                  clear hjd
                                  go_wp2
                                  clear c1 y0 hji
                                  go_loopw [7] (fun i wr => ∃ m : Nat, m ≤ 0 ∧ i = .int .i64 m ∧ Hid (Below W3.heap.size W3 wr) ∧ Hid (∀ j (hj : j < m) (h : j < ns.length), ns[j].id ≠ ns[0].id)) (fun i _ => (0) - (intOf i).toNat)
                                  case atStart => exact ⟨0, Nat.zero_le _, rfl, Lib.hid (Below.refl _ _), Lib.hid (fun j h => absurd h (Nat.not_lt_zero _))⟩
                                  case round =>
                                    obtain ⟨m, hm, rfl, HBZ, HMZ⟩ := hrel
                                    have HBWZ : Hid (Below W.heap.size W wr) := Lib.hid (HBW3.out.trans (HBZ.out.mono HBW3.out.size))
                                    have HBTZ : Hid (Below (W.heap.size + 1) (W.alloc (.cells (keepV (.slice (some ⟨b, off, none⟩) ns.length c) nx) 24)) wr) := Lib.hid (HBT3.out.trans (HBZ.out.mono (by have := HBT3.out.size; rwa [heap_len] at this)))
                                    by_cases hmk : m < 0
                                    · exact absurd hmk (Nat.not_lt_zero _)
                                    · obtain rfl : m = 0 := by omega
                                      have HAT : Hid (FitAt ns nx (0) hlt) := Lib.hid ⟨HPT.out, HRS.out, HD.out, HEM.out, HL.out, HH.out, HHO.out, fun j hj => HMZ.out j hj (by omega)⟩
                                      go_wp2
                                      go_roundw
                                      case rel => exact ⟨0 + 1, by omega, by go_num, HBTZ, Lib.hid (fun j hj hjk => by
                                        rcases Nat.lt_or_eq_of_le (Nat.le_of_lt_succ hjk) with h1 | rfl
                                        · exact HK.out j hj h1
                                        · exact HAT.out)⟩
                                      case measure => simp [intOf]; omega
                    · have b1 : decide ((32768 : Int) < (ns[0].data.length : Int)) = true := decide_eq_true (by omega)
                      clear hd
                      (refine wp_region_grown (by kernel_rfl) (by kernel_rfl) ?_; (repeat (go_big_quiet_step ((go_at_call 19; with_reducible exact Calls.grown_same (HP.out _))))); refine wpQuiet_nil ?_; intro _ hw'; obtain ⟨sG, hw''⟩ := hw'; subst hw'')
                      go_wp2
                      go_ret
                      exact ⟨fitAns_no, HBW1.out.trans (sG.below.mono HBW1.out.size)⟩
                  · obtain ⟨q, rfl⟩ : ∃ q, k = q + 1 := ⟨k - 1, by omega⟩
                    have hql : q < ns.length := by omega
                    have b0 : decide ((0 : Int) < (q : Int) + 1) = true := decide_eq_true (by omega)
                    have p0 : ∀ s : Grown W1, s.w.cell? ⟨b, off + q * 4, none⟩ = some (.string (mkB ns[q].path)) := fun s => (HR.out.below (HBW1.out.trans (s.below.mono HBW1.out.size))).c0 q hql
                    have hless := less_any ns[q].path ns[q + 1].path
                    clear hk0
                    by_cases hrs : ns[q].path < ns[q + 1].path
                    · rw [decide_eq_true hrs] at hless
                      have HRS : Hid (∀ q' (hq : q' + 1 = q + 1), ns[q'].path < ns[q + 1].path) := Lib.hid (fun q' hq => by obtain rfl : q' = q := by omega
                                                                                                                            exact hrs)
                      clear hrs
                      by_cases hd : ns[q + 1].data.length ≤ 32768
                      · have b1 : decide ((32768 : Int) < (ns[q + 1].data.length : Int)) = false := decide_eq_false (by omega)
                        have HD := Lib.hid hd
                        clear hd
                        cases hdir : ns[q + 1].dir
                        · rw [hdir] at x1
                          have HEM : Hid (ns[q + 1].dir = true → ns[q + 1].data = []) := Lib.hid (fun h => by rw [hdir] at h; cases h)
                          clear hdir
                          by_cases h5 : ns[q + 1].id < 0
                          · have b5 : decide (ns[q + 1].id < 0) = true := decide_eq_true h5
                            clear h5
                            (refine wp_region_grown (by kernel_rfl) (by kernel_rfl) ?_; (repeat (go_big_quiet_step ((go_at_call 19; with_reducible exact Calls.grown_same (HP.out _))))); refine wpQuiet_nil ?_; intro _ hw'; obtain ⟨sG, hw''⟩ := hw'; subst hw'')
                            go_wp2
                            go_ret
                            exact ⟨fitAns_no, HBW1.out.trans (sG.below.mono HBW1.out.size)⟩
                          · have b5 : decide (ns[q + 1].id < 0) = false := decide_eq_false h5
                            have HL : Hid (0 ≤ ns[q + 1].id) := Lib.hid (Int.not_lt.1 h5)
                            clear h5
                            by_cases h6 : nx ≤ ns[q + 1].id
                            · have b6 : decide (nx ≤ ns[q + 1].id) = true := decide_eq_true h6
                              clear h6
                              (refine wp_region_grown (by kernel_rfl) (by kernel_rfl) ?_; (repeat (go_big_quiet_step ((go_at_call 19; with_reducible exact Calls.grown_same (HP.out _))))); refine wpQuiet_nil ?_; intro _ hw'; obtain ⟨sG, hw''⟩ := hw'; subst hw'')
                              go_wp2
                              go_ret
                              exact ⟨fitAns_no, HBW1.out.trans (sG.below.mono HBW1.out.size)⟩
                            · have b6 : decide (nx ≤ ns[q + 1].id) = false := decide_eq_false h6
                              have HH : Hid (ns[q + 1].id < nx) := Lib.hid (Int.not_le.1 h6)
                              clear h6
                              (refine wp_region_grown (by kernel_rfl) (by kernel_rfl) ?_; (repeat (go_big_quiet_step ((go_at_call 19; with_reducible exact Calls.grown_same (HP.out _))))); refine wpQuiet_nil ?_; intro _ hw'; obtain ⟨sG, hw''⟩ := hw'; subst hw'')
                              go_wp2
                              obtain ⟨W2, hW2⟩ : ∃ W2, W2 = sG.w := ⟨_, rfl⟩
                              have HT2 : Hid (W2.heap[W.heap.size]? = some (.cells (keepV (.slice (some ⟨b, off, none⟩) ns.length c) nx) 24)) := Lib.hid (by rw [hW2]; exact Grown.row HT1.out sG)
                              have H2 : Hid (W2.heap[wr.heap.size]? = some (.cells (nodeV ns[q + 1]) 28)) := Lib.hid (by rw [hW2]; exact Grown.row H1.out sG)
                              have HB2 : Hid (Below (W.heap.size + 1) (W.alloc (.cells (keepV (.slice (some ⟨b, off, none⟩) ns.length c) nx) 24)) W2) := Lib.hid (by rw [hW2]; exact HB1.out.trans (sG.below.mono (by have := HB1.out.size; rwa [heap_len] at this)))
                              have HBW2 : Hid (Below W.heap.size W W2) := Lib.hid (by rw [hW2]; exact HBW1.out.trans (sG.below.mono HBW1.out.size))
                              rw [← hW2]
                              clear hW2 x0 x1 x2 x3 y0 y1 sG HP
                              obtain ⟨G, hG⟩ : ∃ G, G = wr.heap.size := ⟨_, rfl⟩
                              rw [← hG] at H2 ⊢
                              clear hG
                              have x0 : ∀ s : Grown W2, s.w.cell? ⟨G, 0, none⟩ = some (.string (mkB ns[q + 1].path)) := Grown.cell (o := 0) H2.out rfl
                              have HDO : Hid (∀ s : Grown W2, Calls Tryz.prog 21 #[.string (mkB ns[q + 1].path)] s.w fun e w' => e = .returned (.string (mkB (dirP ns[q + 1].path))) ∧ w' = s.w) := Lib.hid (fun s => dirOf_any _ HPT.out s.w)
                              have HPL : Hid (∀ s : Grown W2, Calls Tryz.prog 20 #[.agg (keepV (.slice (some ⟨b, off, none⟩) ns.length c) nx), .string (mkB (dirP ns[q + 1].path))] s.w fun e w' => e = .returned (.int .i64 (placeS ns (dirP ns[q + 1].path))) ∧ Below s.w.heap.size s.w w') := Lib.hid (fun s => place_any ns (by omega) _ _ nx s.w ⟨_, _, rfl, fun _ => ⟨b, off, rfl, HR.out.below (HBW2.out.trans (s.below.mono HBW2.out.size))⟩⟩)
                              cases hh : hasS ns (dirP ns[q + 1].path)
                              · rw [placeS_none hh] at HPL
                                clear hh
                                (refine wp_region_grown (by kernel_rfl) (by kernel_rfl) ?_; (repeat (first | go_big_quiet_step ((first | (go_at_call 21; with_reducible exact Calls.grown_same (HDO.out _)) | (go_at_call 20; with_reducible exact Calls.grown (HPL.out _)))) | (go_big_quiet_want; refine quiet_load_row 24 (.tmp 1) (keepV (.slice (some ⟨b, off, none⟩) ns.length c) nx) rfl rfl HT2.out (by kernel_rfl) (tree_size _ _) ?_; go_big_quiet_on; (try simp only [Act.put, List.getElem_toArray, List.getElem_cons_succ, List.getElem_cons_zero, List.setIfInBounds_toArray, List.set_cons_zero, List.set_cons_succ])))); refine wpQuiet_nil ?_; intro _ hw'; obtain ⟨sG, hw''⟩ := hw'; subst hw'')
                                go_wp2
                                go_ret
                                exact ⟨fitAns_no, HBW2.out.trans (sG.below.mono HBW2.out.size)⟩
                              · obtain ⟨j, hj, hpl2, hjp⟩ := placeS_some hh
                                rw [hpl2] at HPL
                                have HPS := Lib.hid hpl2
                                clear hh hpl2 hjp
                                have hji : (j : Int) < ns.length := by omega
                                (refine wp_region_grown (by kernel_rfl) (by kernel_rfl) ?_; (repeat (first | go_big_quiet_step ((first | (go_at_call 21; with_reducible exact Calls.grown_same (HDO.out _)) | (go_at_call 20; with_reducible exact Calls.grown (HPL.out _)))) | (go_big_quiet_want; refine quiet_load_row 24 (.tmp 1) (keepV (.slice (some ⟨b, off, none⟩) ns.length c) nx) rfl rfl HT2.out (by kernel_rfl) (tree_size _ _) ?_; go_big_quiet_on; (try simp only [Act.put, List.getElem_toArray, List.getElem_cons_succ, List.getElem_cons_zero, List.setIfInBounds_toArray, List.set_cons_zero, List.set_cons_succ])))); refine wpQuiet_nil ?_; intro _ hw'; obtain ⟨sG, hw''⟩ := hw'; subst hw'')
                                have HB3 : Hid (Below W2.heap.size W2 sG.w) := Lib.hid sG.below
                                obtain ⟨W3, hW3⟩ : ∃ W3, W3 = sG.w := ⟨_, rfl⟩
                                rw [← hW3] at HB3 ⊢
                                clear hW3 sG x0 HDO HPL
                                have HBW3 : Hid (Below W.heap.size W W3) := Lib.hid (HBW2.out.trans (HB3.out.mono HBW2.out.size))
                                have HBT3 : Hid (Below (W.heap.size + 1) (W.alloc (.cells (keepV (.slice (some ⟨b, off, none⟩) ns.length c) nx) 24)) W3) := Lib.hid (HB2.out.trans (HB3.out.mono (by have := HB2.out.size; rwa [heap_len] at this)))
                                have HT3 : Hid (W3.heap[W.heap.size]? = some (.cells (keepV (.slice (some ⟨b, off, none⟩) ns.length c) nx) 24)) := Lib.hid ((HB3.out.block _ (heap_lt HT2.out)).trans HT2.out)
                                have H3 : Hid (W3.heap[G]? = some (.cells (nodeV ns[q + 1]) 28)) := Lib.hid ((HB3.out.block _ (heap_lt H2.out)).trans H2.out)
                                have y0 := cell_at (o := 0) HT3.out rfl
                                have c1 := (HR.out.below HBW3.out).c1 j hj
                                cases hjd : ns[j].dir
                                · rw [hjd] at c1
                                  clear hjd
                                  go_wp2
                                  go_ret
                                  exact ⟨fitAns_no, HBW3.out⟩
                                · rw [hjd] at c1
                                  have HHO : Hid (∃ j, ∃ hj : j < ns.length, placeS ns (dirP ns[q + 1].path) = j ∧ ns[j].dir = true) := Lib.hid ⟨j, hj, HPS.out, hjd⟩
                                  clear hjd
                                  go_wp2
                                  clear c1 y0 hji
                                  go_loopw [7] (fun i wr => ∃ m : Nat, m ≤ q + 1 ∧ i = .int .i64 m ∧ Hid (Below W3.heap.size W3 wr) ∧ Hid (∀ j (hj : j < m) (h : j < ns.length), ns[j].id ≠ ns[q + 1].id)) (fun i _ => (q + 1) - (intOf i).toNat)
                                  case atStart => exact ⟨0, Nat.zero_le _, rfl, Lib.hid (Below.refl _ _), Lib.hid (fun j h => absurd h (Nat.not_lt_zero _))⟩
                                  case round =>
                                    obtain ⟨m, hm, rfl, HBZ, HMZ⟩ := hrel
                                    have HBWZ : Hid (Below W.heap.size W wr) := Lib.hid (HBW3.out.trans (HBZ.out.mono HBW3.out.size))
                                    have HBTZ : Hid (Below (W.heap.size + 1) (W.alloc (.cells (keepV (.slice (some ⟨b, off, none⟩) ns.length c) nx) 24)) wr) := Lib.hid (HBT3.out.trans (HBZ.out.mono (by have := HBT3.out.size; rwa [heap_len] at this)))
                                    by_cases hmk : m < q + 1
                                    · have hml : m < ns.length := by omega
                                      have hmi : (m : Int) < (ns.length : Int) := by omega
                                      have HTZ : Hid (wr.heap[W.heap.size]? = some (.cells (keepV (.slice (some ⟨b, off, none⟩) ns.length c) nx) 24)) := Lib.hid ((HBZ.out.block _ (heap_lt HT3.out)).trans HT3.out)
                                      have HZ : Hid (wr.heap[G]? = some (.cells (nodeV ns[q + 1]) 28)) := Lib.hid ((HBZ.out.block _ (heap_lt H3.out)).trans H3.out)
                                      have y0 : ∀ s : Grown wr, s.w.cell? ⟨W.heap.size, 0, none⟩ = some (.slice (some ⟨b, off, none⟩) ns.length c) := Grown.cell (o := 0) HTZ.out rfl
                                      have x3 : ∀ s : Grown wr, s.w.cell? ⟨G, 3, none⟩ = some (.int .i64 ns[q + 1].id) := Grown.cell (o := 3) HZ.out rfl
                                      have p3 : ∀ s : Grown wr, s.w.cell? ⟨b, off + m * 4 + 3, none⟩ = some (.int .i64 ns[m].id) := fun s => (HR.out.below (HBWZ.out.trans (s.below.mono HBWZ.out.size))).c3 m hml
                                      cases he : (ns[m].id == ns[q + 1].id)
                                      · have HNE : Hid (ns[m].id ≠ ns[q + 1].id) := Lib.hid (beq_eq_false_iff_ne.1 he)
                                        go_upto_region 16 with fail
                                        (refine wp_region_grown (by kernel_rfl) (by kernel_rfl) ?_; (repeat (go_big_quiet_step (fail))); refine wpQuiet_nil ?_; intro _ hw'; obtain ⟨sG, hw''⟩ := hw'; subst hw'')
                                        go_wp2
                                        go_roundw
                                        case rel => exact ⟨m + 1, by omega, by go_num, Lib.hid (HBZ.out.trans (sG.below.mono HBZ.out.size)), Lib.hid (fun j hj h => by
                                          rcases Nat.lt_or_eq_of_le (Nat.le_of_lt_succ hj) with h1 | rfl
                                          · exact HMZ.out j h1 h
                                          · exact HNE.out)⟩
                                        case measure => simp [intOf]; omega
                                      · go_upto_region 16 with fail
                                        (refine wp_region_grown (by kernel_rfl) (by kernel_rfl) ?_; (repeat (go_big_quiet_step (fail))); refine wpQuiet_nil ?_; intro _ hw'; obtain ⟨sG, hw''⟩ := hw'; subst hw'')
                                        go_wp2
                                        go_ret
                                        exact ⟨fitAns_no, HBWZ.out.trans (sG.below.mono HBWZ.out.size)⟩
                                    · obtain rfl : m = q + 1 := by omega
                                      have HAT : Hid (FitAt ns nx (q + 1) hlt) := Lib.hid ⟨HPT.out, HRS.out, HD.out, HEM.out, HL.out, HH.out, HHO.out, fun j hj => HMZ.out j hj (by omega)⟩
                                      go_wp2
                                      go_roundw
                                      case rel => exact ⟨q + 1 + 1, by omega, by go_num, HBTZ, Lib.hid (fun j hj hjk => by
                                        rcases Nat.lt_or_eq_of_le (Nat.le_of_lt_succ hjk) with h1 | rfl
                                        · exact HK.out j hj h1
                                        · exact HAT.out)⟩
                                      case measure => simp [intOf]; omega
                        · rw [hdir] at x1
                          clear hdir
                          cases hem : (ns[q + 1].data == [])
                          · rw [hem] at z3 z4
                            clear hem
                            (refine wp_region_grown (by kernel_rfl) (by kernel_rfl) ?_; (repeat (go_big_quiet_step ((go_at_call 19; with_reducible exact Calls.grown_same (HP.out _))))); refine wpQuiet_nil ?_; intro _ hw'; obtain ⟨sG, hw''⟩ := hw'; subst hw'')
                            go_wp2
                            go_ret
                            exact ⟨fitAns_no, HBW1.out.trans (sG.below.mono HBW1.out.size)⟩
                          · have HEM : Hid (ns[q + 1].dir = true → ns[q + 1].data = []) := Lib.hid (fun _ => beq_iff_eq.1 hem)
                            rw [hem] at z3 z4
                            clear hem
                            by_cases h5 : ns[q + 1].id < 0
                            · have b5 : decide (ns[q + 1].id < 0) = true := decide_eq_true h5
                              clear h5
                              (refine wp_region_grown (by kernel_rfl) (by kernel_rfl) ?_; (repeat (go_big_quiet_step ((go_at_call 19; with_reducible exact Calls.grown_same (HP.out _))))); refine wpQuiet_nil ?_; intro _ hw'; obtain ⟨sG, hw''⟩ := hw'; subst hw'')
                              go_wp2
                              go_ret
                              exact ⟨fitAns_no, HBW1.out.trans (sG.below.mono HBW1.out.size)⟩
                            · have b5 : decide (ns[q + 1].id < 0) = false := decide_eq_false h5
                              have HL : Hid (0 ≤ ns[q + 1].id) := Lib.hid (Int.not_lt.1 h5)
                              clear h5
                              by_cases h6 : nx ≤ ns[q + 1].id
                              · have b6 : decide (nx ≤ ns[q + 1].id) = true := decide_eq_true h6
                                clear h6
                                (refine wp_region_grown (by kernel_rfl) (by kernel_rfl) ?_; (repeat (go_big_quiet_step ((go_at_call 19; with_reducible exact Calls.grown_same (HP.out _))))); refine wpQuiet_nil ?_; intro _ hw'; obtain ⟨sG, hw''⟩ := hw'; subst hw'')
                                go_wp2
                                go_ret
                                exact ⟨fitAns_no, HBW1.out.trans (sG.below.mono HBW1.out.size)⟩
                              · have b6 : decide (nx ≤ ns[q + 1].id) = false := decide_eq_false h6
                                have HH : Hid (ns[q + 1].id < nx) := Lib.hid (Int.not_le.1 h6)
                                clear h6
                                (refine wp_region_grown (by kernel_rfl) (by kernel_rfl) ?_; (repeat (go_big_quiet_step ((go_at_call 19; with_reducible exact Calls.grown_same (HP.out _))))); refine wpQuiet_nil ?_; intro _ hw'; obtain ⟨sG, hw''⟩ := hw'; subst hw'')
                                go_wp2
                                obtain ⟨W2, hW2⟩ : ∃ W2, W2 = sG.w := ⟨_, rfl⟩
                                have HT2 : Hid (W2.heap[W.heap.size]? = some (.cells (keepV (.slice (some ⟨b, off, none⟩) ns.length c) nx) 24)) := Lib.hid (by rw [hW2]; exact Grown.row HT1.out sG)
                                have H2 : Hid (W2.heap[wr.heap.size]? = some (.cells (nodeV ns[q + 1]) 28)) := Lib.hid (by rw [hW2]; exact Grown.row H1.out sG)
                                have HB2 : Hid (Below (W.heap.size + 1) (W.alloc (.cells (keepV (.slice (some ⟨b, off, none⟩) ns.length c) nx) 24)) W2) := Lib.hid (by rw [hW2]; exact HB1.out.trans (sG.below.mono (by have := HB1.out.size; rwa [heap_len] at this)))
                                have HBW2 : Hid (Below W.heap.size W W2) := Lib.hid (by rw [hW2]; exact HBW1.out.trans (sG.below.mono HBW1.out.size))
                                rw [← hW2]
                                clear hW2 x0 x1 x2 x3 y0 y1 sG HP
                                obtain ⟨G, hG⟩ : ∃ G, G = wr.heap.size := ⟨_, rfl⟩
                                rw [← hG] at H2 ⊢
                                clear hG
                                have x0 : ∀ s : Grown W2, s.w.cell? ⟨G, 0, none⟩ = some (.string (mkB ns[q + 1].path)) := Grown.cell (o := 0) H2.out rfl
                                have HDO : Hid (∀ s : Grown W2, Calls Tryz.prog 21 #[.string (mkB ns[q + 1].path)] s.w fun e w' => e = .returned (.string (mkB (dirP ns[q + 1].path))) ∧ w' = s.w) := Lib.hid (fun s => dirOf_any _ HPT.out s.w)
                                have HPL : Hid (∀ s : Grown W2, Calls Tryz.prog 20 #[.agg (keepV (.slice (some ⟨b, off, none⟩) ns.length c) nx), .string (mkB (dirP ns[q + 1].path))] s.w fun e w' => e = .returned (.int .i64 (placeS ns (dirP ns[q + 1].path))) ∧ Below s.w.heap.size s.w w') := Lib.hid (fun s => place_any ns (by omega) _ _ nx s.w ⟨_, _, rfl, fun _ => ⟨b, off, rfl, HR.out.below (HBW2.out.trans (s.below.mono HBW2.out.size))⟩⟩)
                                cases hh : hasS ns (dirP ns[q + 1].path)
                                · rw [placeS_none hh] at HPL
                                  clear hh
                                  (refine wp_region_grown (by kernel_rfl) (by kernel_rfl) ?_; (repeat (first | go_big_quiet_step ((first | (go_at_call 21; with_reducible exact Calls.grown_same (HDO.out _)) | (go_at_call 20; with_reducible exact Calls.grown (HPL.out _)))) | (go_big_quiet_want; refine quiet_load_row 24 (.tmp 1) (keepV (.slice (some ⟨b, off, none⟩) ns.length c) nx) rfl rfl HT2.out (by kernel_rfl) (tree_size _ _) ?_; go_big_quiet_on; (try simp only [Act.put, List.getElem_toArray, List.getElem_cons_succ, List.getElem_cons_zero, List.setIfInBounds_toArray, List.set_cons_zero, List.set_cons_succ])))); refine wpQuiet_nil ?_; intro _ hw'; obtain ⟨sG, hw''⟩ := hw'; subst hw'')
                                  go_wp2
                                  go_ret
                                  exact ⟨fitAns_no, HBW2.out.trans (sG.below.mono HBW2.out.size)⟩
                                · obtain ⟨j, hj, hpl2, hjp⟩ := placeS_some hh
                                  rw [hpl2] at HPL
                                  have HPS := Lib.hid hpl2
                                  clear hh hpl2 hjp
                                  have hji : (j : Int) < ns.length := by omega
                                  (refine wp_region_grown (by kernel_rfl) (by kernel_rfl) ?_; (repeat (first | go_big_quiet_step ((first | (go_at_call 21; with_reducible exact Calls.grown_same (HDO.out _)) | (go_at_call 20; with_reducible exact Calls.grown (HPL.out _)))) | (go_big_quiet_want; refine quiet_load_row 24 (.tmp 1) (keepV (.slice (some ⟨b, off, none⟩) ns.length c) nx) rfl rfl HT2.out (by kernel_rfl) (tree_size _ _) ?_; go_big_quiet_on; (try simp only [Act.put, List.getElem_toArray, List.getElem_cons_succ, List.getElem_cons_zero, List.setIfInBounds_toArray, List.set_cons_zero, List.set_cons_succ])))); refine wpQuiet_nil ?_; intro _ hw'; obtain ⟨sG, hw''⟩ := hw'; subst hw'')
                                  have HB3 : Hid (Below W2.heap.size W2 sG.w) := Lib.hid sG.below
                                  obtain ⟨W3, hW3⟩ : ∃ W3, W3 = sG.w := ⟨_, rfl⟩
                                  rw [← hW3] at HB3 ⊢
                                  clear hW3 sG x0 HDO HPL
                                  have HBW3 : Hid (Below W.heap.size W W3) := Lib.hid (HBW2.out.trans (HB3.out.mono HBW2.out.size))
                                  have HBT3 : Hid (Below (W.heap.size + 1) (W.alloc (.cells (keepV (.slice (some ⟨b, off, none⟩) ns.length c) nx) 24)) W3) := Lib.hid (HB2.out.trans (HB3.out.mono (by have := HB2.out.size; rwa [heap_len] at this)))
                                  have HT3 : Hid (W3.heap[W.heap.size]? = some (.cells (keepV (.slice (some ⟨b, off, none⟩) ns.length c) nx) 24)) := Lib.hid ((HB3.out.block _ (heap_lt HT2.out)).trans HT2.out)
                                  have H3 : Hid (W3.heap[G]? = some (.cells (nodeV ns[q + 1]) 28)) := Lib.hid ((HB3.out.block _ (heap_lt H2.out)).trans H2.out)
                                  have y0 := cell_at (o := 0) HT3.out rfl
                                  have c1 := (HR.out.below HBW3.out).c1 j hj
                                  cases hjd : ns[j].dir
                                  · rw [hjd] at c1
                                    clear hjd
                                    go_wp2
                                    go_ret
                                    exact ⟨fitAns_no, HBW3.out⟩
                                  · rw [hjd] at c1
                                    have HHO : Hid (∃ j, ∃ hj : j < ns.length, placeS ns (dirP ns[q + 1].path) = j ∧ ns[j].dir = true) := Lib.hid ⟨j, hj, HPS.out, hjd⟩
                                    clear hjd
                                    go_wp2
                                    clear c1 y0 hji
                                    go_loopw [7] (fun i wr => ∃ m : Nat, m ≤ q + 1 ∧ i = .int .i64 m ∧ Hid (Below W3.heap.size W3 wr) ∧ Hid (∀ j (hj : j < m) (h : j < ns.length), ns[j].id ≠ ns[q + 1].id)) (fun i _ => (q + 1) - (intOf i).toNat)
                                    case atStart => exact ⟨0, Nat.zero_le _, rfl, Lib.hid (Below.refl _ _), Lib.hid (fun j h => absurd h (Nat.not_lt_zero _))⟩
                                    case round =>
                                      obtain ⟨m, hm, rfl, HBZ, HMZ⟩ := hrel
                                      have HBWZ : Hid (Below W.heap.size W wr) := Lib.hid (HBW3.out.trans (HBZ.out.mono HBW3.out.size))
                                      have HBTZ : Hid (Below (W.heap.size + 1) (W.alloc (.cells (keepV (.slice (some ⟨b, off, none⟩) ns.length c) nx) 24)) wr) := Lib.hid (HBT3.out.trans (HBZ.out.mono (by have := HBT3.out.size; rwa [heap_len] at this)))
                                      by_cases hmk : m < q + 1
                                      · have hml : m < ns.length := by omega
                                        have hmi : (m : Int) < (ns.length : Int) := by omega
                                        have HTZ : Hid (wr.heap[W.heap.size]? = some (.cells (keepV (.slice (some ⟨b, off, none⟩) ns.length c) nx) 24)) := Lib.hid ((HBZ.out.block _ (heap_lt HT3.out)).trans HT3.out)
                                        have HZ : Hid (wr.heap[G]? = some (.cells (nodeV ns[q + 1]) 28)) := Lib.hid ((HBZ.out.block _ (heap_lt H3.out)).trans H3.out)
                                        have y0 : ∀ s : Grown wr, s.w.cell? ⟨W.heap.size, 0, none⟩ = some (.slice (some ⟨b, off, none⟩) ns.length c) := Grown.cell (o := 0) HTZ.out rfl
                                        have x3 : ∀ s : Grown wr, s.w.cell? ⟨G, 3, none⟩ = some (.int .i64 ns[q + 1].id) := Grown.cell (o := 3) HZ.out rfl
                                        have p3 : ∀ s : Grown wr, s.w.cell? ⟨b, off + m * 4 + 3, none⟩ = some (.int .i64 ns[m].id) := fun s => (HR.out.below (HBWZ.out.trans (s.below.mono HBWZ.out.size))).c3 m hml
                                        cases he : (ns[m].id == ns[q + 1].id)
                                        · have HNE : Hid (ns[m].id ≠ ns[q + 1].id) := Lib.hid (beq_eq_false_iff_ne.1 he)
                                          go_upto_region 16 with fail
                                          (refine wp_region_grown (by kernel_rfl) (by kernel_rfl) ?_; (repeat (go_big_quiet_step (fail))); refine wpQuiet_nil ?_; intro _ hw'; obtain ⟨sG, hw''⟩ := hw'; subst hw'')
                                          go_wp2
                                          go_roundw
                                          case rel => exact ⟨m + 1, by omega, by go_num, Lib.hid (HBZ.out.trans (sG.below.mono HBZ.out.size)), Lib.hid (fun j hj h => by
                                            rcases Nat.lt_or_eq_of_le (Nat.le_of_lt_succ hj) with h1 | rfl
                                            · exact HMZ.out j h1 h
                                            · exact HNE.out)⟩
                                          case measure => simp [intOf]; omega
                                        · go_upto_region 16 with fail
                                          (refine wp_region_grown (by kernel_rfl) (by kernel_rfl) ?_; (repeat (go_big_quiet_step (fail))); refine wpQuiet_nil ?_; intro _ hw'; obtain ⟨sG, hw''⟩ := hw'; subst hw'')
                                          go_wp2
                                          go_ret
                                          exact ⟨fitAns_no, HBWZ.out.trans (sG.below.mono HBWZ.out.size)⟩
                                      · obtain rfl : m = q + 1 := by omega
                                        have HAT : Hid (FitAt ns nx (q + 1) hlt) := Lib.hid ⟨HPT.out, HRS.out, HD.out, HEM.out, HL.out, HH.out, HHO.out, fun j hj => HMZ.out j hj (by omega)⟩
                                        go_wp2
                                        go_roundw
                                        case rel => exact ⟨q + 1 + 1, by omega, by go_num, HBTZ, Lib.hid (fun j hj hjk => by
                                          rcases Nat.lt_or_eq_of_le (Nat.le_of_lt_succ hjk) with h1 | rfl
                                          · exact HK.out j hj h1
                                          · exact HAT.out)⟩
                                        case measure => simp [intOf]; omega
                      · have b1 : decide ((32768 : Int) < (ns[q + 1].data.length : Int)) = true := decide_eq_true (by omega)
                        clear hd
                        (refine wp_region_grown (by kernel_rfl) (by kernel_rfl) ?_; (repeat (go_big_quiet_step ((go_at_call 19; with_reducible exact Calls.grown_same (HP.out _))))); refine wpQuiet_nil ?_; intro _ hw'; obtain ⟨sG, hw''⟩ := hw'; subst hw'')
                        go_wp2
                        go_ret
                        exact ⟨fitAns_no, HBW1.out.trans (sG.below.mono HBW1.out.size)⟩
                    · rw [decide_eq_false hrs] at hless
                      clear hrs
                      (refine wp_region_grown (by kernel_rfl) (by kernel_rfl) ?_; (repeat (go_big_quiet_step ((go_at_call 19; with_reducible exact Calls.grown_same (HP.out _))))); refine wpQuiet_nil ?_; intro _ hw'; obtain ⟨sG, hw''⟩ := hw'; subst hw'')
                      go_wp2
                      go_ret
                      exact ⟨fitAns_no, HBW1.out.trans (sG.below.mono HBW1.out.size)⟩
                · rw [Bool.not_eq_true] at hpt
                  rw [hpt] at HP
                  clear hpt
                  (refine wp_region_grown (by kernel_rfl) (by kernel_rfl) ?_; (repeat (go_big_quiet_step ((go_at_call 19; with_reducible exact Calls.grown_same (HP.out _))))); refine wpQuiet_nil ?_; intro _ hw'; obtain ⟨sG, hw''⟩ := hw'; subst hw'')
                  go_wp2
                  go_ret
                  exact ⟨fitAns_no, HBW1.out.trans (sG.below.mono HBW1.out.size)⟩
                -- END ROUND
              · obtain rfl : k = ns.length := by omega
                go_wp2
                go_ret
                exact ⟨fitAns_yes ⟨hlen, hlen2, hn, HE.out.1, HE.out.2, fun i hi => HK.out i hi hi⟩, HBW.out⟩
      · clear hN0 hpl hnx
        go_enter Tryz.func7, Tryz.ntmps7
        go_wp2
        go_ret
        exact ⟨fitAns_no, (Below.refl _ _).alloc (Nat.le_refl _) _⟩
    · have hl1 : (1 : Int) ≤ ns.length := by omega
      have hl2 : ¬ (ns.length : Int) ≤ 40 := by omega
      clear hN0 hpl hnx
      go_enter Tryz.func7, Tryz.ntmps7
      go_wp2
      go_ret
      exact ⟨fitAns_no, (Below.refl _ _).alloc (Nat.le_refl _) _⟩
  · have hl1 : ¬ (1 : Int) ≤ ns.length := by omega
    have hl3 : (ns.length : Int) < 1 := by omega
    clear hN0 hpl hnx
    go_enter Tryz.func7, Tryz.ntmps7
    go_wp2
    go_ret
    exact ⟨fitAns_no, (Below.refl _ _).alloc (Nat.le_refl _) _⟩
end Go.Proofs.YtlpgandflkabcaaGreatDoor
