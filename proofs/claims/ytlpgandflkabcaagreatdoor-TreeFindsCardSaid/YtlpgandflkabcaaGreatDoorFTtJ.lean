/-
  The law TreeFinds, walked.
-/
import Derived.Test.YtlpgandflkabcaaGreatDoorFTtI
import Derived.Test.YtlpgandflkabcaaGreatDoorFTtH
import Derived.Test.YtlpgandflkabcaaGreatDoorFTrV
namespace Go.Proofs.YtlpgandflkabcaaGreatDoor
open Go Go.RowKit Go.Shelf
set_option linter.unusedVariables false
set_option linter.unusedSimpArgs false

def Keep (W : World) (tv : Array Value) (w : World) : Prop := Below W.heap.size W w ∧ w.heap[W.heap.size]? = some (.cells tv 24)
theorem keep_of {W w : World} {tv : Array Value} (h : Below (W.alloc (.cells tv 24)).heap.size (W.alloc (.cells tv 24)) w) : Keep W tv w :=
  ⟨((Below.refl _ _).alloc (Nat.le_refl _) _).trans (h.mono (by simp only [heap_len]; omega)), (h.block _ (by simp only [heap_len]; omega)).trans (heap_new _ _ _ rfl)⟩
theorem below_step {a b w : World} {o : Obj} (h : Below a.heap.size a b) (h2 : Below (b.alloc o).heap.size (b.alloc o) w) : Below a.heap.size a w ∧ w.heap[b.heap.size]? = some o :=
  ⟨(h.alloc h.size o).trans (h2.mono (by have := h.size; simp only [heap_len]; omega)), (h2.block _ (by simp only [heap_len]; omega)).trans (heap_new _ _ _ rfl)⟩
theorem nodesV_step {b : World} {v : Value} {l : List NodeD} (o : Obj) (h : NodesV b v l) : NodesV (b.alloc o) v l := h.below ((Below.refl _ _).alloc (Nat.le_refl _) _)
/-- The guards of the laws. -/
structure Few (ns : List NodeD) (nx : Int) (p : List UInt8) (to1 : List UInt8) : Prop where
  fit : FitT ns nx
  len1 : p.length ≤ 600
  len2 : to1.length ≤ 600
theorem finds_bad {ns : List NodeD} {fr tw : List UInt8} {E : Int} {l : List NodeD} (h : RenAns ns fr tw E l) (hE : E ≠ 0) : l = ns := by
  rcases h with ⟨_, _, h⟩ | ⟨_, _, h, _⟩ | ⟨_, _, _, _, h⟩ | ⟨_, _, _, h, _⟩
  · exact h
  · exact absurd h hE
  · exact h
  · exact absurd h hE
theorem preE_found {ns : List NodeD} {fr tw : List UInt8} (h : preE ns fr tw = 0) : findE ns fr = 0 := by
  unfold preE at h
  split at h
  · split at h
    · assumption
    · rename_i h2; exact absurd h h2
  · cases h
theorem finds_end {ns : List NodeD} {nx : Int} (hfit : FitT ns nx) {fr tw : List UInt8} {o : NodeD} (ho : o = foundN ns fr) {l : List NodeD} (h : RenAns ns fr tw 0 l) :
    ∃ x : NodeD, RiseS l ∧ l.length ≤ 1000000 ∧ findE l tw = 0 ∧ foundN l tw = x ∧ x.id = o.id ∧ x.data = o.data ∧ x.dir = o.dir ∧ (findE l fr ≠ 0 ∨ fr = tw) := by
  have hr := fit_riseS hfit
  have h40 := hfit.forty
  rcases h with ⟨h1, h2, _⟩ | ⟨h1, rfl, _, rfl⟩ | ⟨_, _, _, h, _⟩ | ⟨h1, h2, _, _, h3, h4⟩
  · exact absurd h2.symm h1
  · exact ⟨_, hr, by omega, preE_found h1, rfl, by rw [ho], by rw [ho], by rw [ho], .inr rfl⟩
  · cases h
  · obtain ⟨F, T, rfl, rfl, hR⟩ := ren_ok hfit h1 h2
    have hfe := preE_found h1
    obtain ⟨_, k, hk, hkp, _⟩ := findE_zero hr hfe
    have ho2 := foundN_at hr hfe hk hkp
    obtain ⟨h5, h6⟩ := ren_found hR h3 h4 hk hkp
    refine ⟨_, ren_rise hR h3 h4, ?_, h5, h6, by rw [ho, ho2], by rw [ho, ho2], by rw [ho, ho2], .inl (find_none (ren_gone hR h3))⟩
    rw [h3.length_eq, List.length_map]
    exact Nat.le_trans (dropN_le ns _) (by omega)
set_option maxRecDepth 100000 in
set_option maxHeartbeats 64000000 in
theorem finds_any (ns : List NodeD) (hs : ∀ a ∈ ns, NodeSized a) (v : Value) (nx : Int) (hnx : -9223372036854775808 ≤ nx ∧ nx < 9223372036854775808) (p tw : List UInt8) (hpz : p.length ≤ 140737488351232) (htz : tw.length ≤ 140737488351232) (dir : Bool) (W : World) (hN : NodesV W v ns) :
    Calls Tryz.prog 3 #[.agg (keepV v nx), .string (mkB p), .string (mkB tw), .bool dir] W fun e w' => e = .returned (.bool true) ∧ Below W.heap.size W w' := by
  obtain ⟨q, c, rfl, hN0⟩ := hN
  have hN : NodesV W (.slice q ns.length c) ns := ⟨q, c, rfl, hN0⟩
  have hz1 := mkB_size p
  have hz2 := mkB_size tw
  have HZ : Hid (∀ w1 : World, Below (W.alloc (.cells (keepV (.slice q ns.length c) nx) 24)).heap.size (W.alloc (.cells (keepV (.slice q ns.length c) nx) 24)) w1 → Keep W (keepV (.slice q ns.length c) nx) w1) := Lib.hid (fun w1 h => keep_of h)
  have HFW : Hid (∀ W' : World, Below W.heap.size W W' → Calls Tryz.prog 6 #[.agg (keepV (.slice q ns.length c) nx)] W' fun e w' => e = .returned (.bool (fewT ns)) ∧ Below W'.heap.size W' w') := Lib.hid (fun W' hb => few_any ns _ nx W' (hN.below hb))
  have HAW : Hid (∀ w : World, Calls Tryz.prog 8 #[] w fun e w' => e = .returned (.bool true) ∧ Below w.heap.size w w') := Lib.hid awake_any
  cases hfw : fewT ns
  · rw [hfw] at HFW
    clear hN hN0 hs hfw hnx
    go_enter Tryz.func3, Tryz.ntmps3
    go_wp2_with (first
      | (go_at_call 6; refine (HFW.out _ ((Below.refl _ _).alloc (Nat.le_refl _) _)).mono ?_; rintro e w1 ⟨rfl, hb1⟩; have HB1 := Lib.hid hb1; clear hb1)
      | (go_at_call 8; refine (HAW.out _).mono ?_; rintro e w9 ⟨rfl, hb9⟩; have HB9 := Lib.hid (HB1.out.trans (hb9.mono HB1.out.size)); clear hb9))
    go_ret
    exact ⟨rfl, (HZ.out _ HB9.out).1⟩
  · obtain ⟨hf1, hf2⟩ := (Bool.and_eq_true _ _).mp hfw
    have hf1 := of_decide_eq_true hf1
    obtain ⟨b, hb, hfi⟩ := fit_is ns (fun i h => ⟨by have := of_decide_eq_true (List.all_eq_true.1 hf2 _ (List.getElem_mem h)); omega, (hs _ (List.getElem_mem h)).2⟩) nx hnx
    have HFI : Hid (∀ W' : World, Below W.heap.size W W' → Calls Tryz.prog 7 #[.agg (keepV (.slice q ns.length c) nx)] W' fun e w' => e = .returned (.bool b) ∧ Below W'.heap.size W' w') := Lib.hid (fun W' hb => hfi _ W' (hN.below hb))
    rw [hfw] at HFW
    clear hfi hfw
    cases b
    · clear hN hN0 hs hnx hb hf1 hf2
      go_enter Tryz.func3, Tryz.ntmps3
      go_wp2_with (first
        | (go_at_call 6; refine (HFW.out _ ((Below.refl _ _).alloc (Nat.le_refl _) _)).mono ?_; rintro e w1 ⟨rfl, hb1⟩; have HB1 := Lib.hid hb1; have z10 := cell_at (o := 0) (HZ.out _ hb1).2 rfl; have z11 := cell_at (o := 1) (HZ.out _ hb1).2 rfl; clear hb1)
        | (go_at_call 7; refine (HFI.out _ (HZ.out _ HB1.out).1).mono ?_; rintro e w2 ⟨rfl, hb2⟩; have HB2 := Lib.hid (HB1.out.trans (hb2.mono HB1.out.size)); have z20 := cell_at (o := 0) (HZ.out _ HB2.out).2 rfl; have z21 := cell_at (o := 1) (HZ.out _ HB2.out).2 rfl; clear hb2)
        | (go_at_call 8; refine (HAW.out _).mono ?_; rintro e w9 ⟨rfl, hb9⟩; have HB9 := Lib.hid (HB2.out.trans (hb9.mono HB2.out.size)); clear hb9))
      go_ret
      exact ⟨rfl, (HZ.out _ HB9.out).1⟩
    · have hfit : FitT ns nx := hb.1 rfl
      by_cases hpl : p.length ≤ 600
      · have hpi : ¬ (600 : Int) < p.length := by omega
        by_cases htl : tw.length ≤ 600
        · have hti : ¬ (600 : Int) < tw.length := by omega
          have hr := fit_riseS hfit
          have h40 := hfit.forty
          have h1n := hfit.one
          have hnx0 : 0 ≤ nx := by have := (hfit.all 0 h1n).low; have := (hfit.all 0 h1n).high; omega
          have hps : ∀ k (h : k < ns.length), ns[k].path.length ≤ 1000 := fun k h => by have := path_len (hfit.all k h).path; omega
          obtain ⟨o, ho⟩ : ∃ o, o = foundN ns p := ⟨_, rfl⟩
          obtain ⟨fo, hfo⟩ : ∃ fo, fo = findE ns p := ⟨_, rfl⟩
          obtain ⟨me, hme⟩ : ∃ me, me = makeE ns nx p := ⟨_, rfl⟩
          obtain ⟨mL, hmL⟩ : ∃ mL, mL = makeL ns nx p dir := ⟨_, rfl⟩
          obtain ⟨mx, hmx⟩ : ∃ mx, mx = (if me = 0 then nx + 1 else nx) := ⟨_, rfl⟩
          obtain ⟨re, hre⟩ : ∃ re, re = removeE ns p dir := ⟨_, rfl⟩
          obtain ⟨rL, hrL⟩ : ∃ rL, rL = removeL ns p dir := ⟨_, rfl⟩
          have HFT : Hid (∀ W' : World, Below W.heap.size W W' → Calls Tryz.prog 9 #[.agg (keepV (.slice q ns.length c) nx), .string (mkB p)] W' fun e w' => e = .returned (.tuple #[.agg (nodeV o), .int .i64 fo]) ∧ Below W'.heap.size W' w') := Lib.hid (fun W' hb => by rw [ho, hfo]; exact findT_any ns hr (by omega) p (by omega) _ nx W' (hN.below hb))
          have HMK : Hid (∀ W' : World, Below W.heap.size W W' → Calls Tryz.prog 10 #[.agg (keepV (.slice q ns.length c) nx), .string (mkB p), .bool dir] W' fun e w' => ∃ v', e = .returned (.tuple #[.agg (keepV v' mx), .int .i64 me]) ∧ NodesV w' v' mL ∧ Below W'.heap.size W' w') := Lib.hid (fun W' hb => by rw [hmx, hme, hmL]; exact make_any ns hr (by omega) p (by omega) dir _ nx hnx0 W' (hN.below hb))
          have HRM : Hid (∀ W' : World, Below W.heap.size W W' → Calls Tryz.prog 12 #[.agg (keepV (.slice q ns.length c) nx), .string (mkB p), .bool dir] W' fun e w' => ∃ v', e = .returned (.tuple #[.agg (keepV v' nx), .int .i64 re]) ∧ NodesV w' v' rL ∧ Below W'.heap.size W' w') := Lib.hid (fun W' hb => by rw [hre, hrL]; exact remove_any ns hr (by omega) (by omega) p (by omega) dir _ nx W' (hN.below hb))
          have HRN : Hid (∀ W' : World, Below W.heap.size W W' → Calls Tryz.prog 13 #[.agg (keepV (.slice q ns.length c) nx), .string (mkB p), .string (mkB tw)] W' fun e w' => RenPost ns p tw nx W' e w') := Lib.hid (fun W' hb => rename_any ns hr (by omega) hps p tw (by omega) (by omega) _ nx W' (hN.below hb))
          have HSA : Hid (∀ (W' : World) (v' : Value), Below W.heap.size W W' → NodesV W' v' ns → Calls Tryz.prog 11 #[.agg (keepV v' nx), .agg (keepV (.slice q ns.length c) nx)] W' fun e w' => e = .returned (.bool true) ∧ Below W'.heap.size W' w') := Lib.hid (fun W' v' hb hv => by
            have := same_any ns ns hs hs (by omega) v' (.slice q ns.length c) nx nx W' hv (hN.below hb)
            rw [decide_eq_true ⟨rfl, rfl⟩] at this
            exact this)
          have HFN : Hid (∀ (l : List NodeD) (s : List UInt8) (W' : World) (v' : Value) (y : Int), RiseS l → l.length ≤ 1000000 → s.length ≤ 600 → NodesV W' v' l → Calls Tryz.prog 9 #[.agg (keepV v' y), .string (mkB s)] W' fun e w' => e = .returned (.tuple #[.agg (nodeV (foundN l s)), .int .i64 (findE l s)]) ∧ Below W'.heap.size W' w') := Lib.hid (fun l s W' v' y h1 h2 h3 h4 => findT_any l h1 h2 s (by omega) v' y W' h4)
          have HFA : Hid (me = 0 → mx = nx + 1 ∧ fo ≠ 0 ∧ RiseS mL ∧ mL.length ≤ 1000000 ∧ findE mL p = 0 ∧ foundN mL p = ⟨p, dir, [], nx⟩) := Lib.hid (fun h => by
            rw [hme] at h
            have hpb : pathB p = true ∧ hasS ns p = false := by
              unfold makeE at h
              split at h
              · rename_i hp
                split at h
                · cases h
                · rename_i hh; exact ⟨hp, by simpa using hh⟩
              · cases h
            have hw := withN_rise hr (⟨p, dir, [], nx⟩ : NodeD) hpb.2
            have hf := found_mem hw (withN_mem ns (⟨p, dir, [], nx⟩ : NodeD)) hpb.1
            rw [hmL, makeL, if_pos h]
            exact ⟨by rw [hmx, hme, if_pos h], by rw [hfo]; exact find_none hpb.2, hw, by rw [withN_len]; omega, hf.1, hf.2⟩)
          have HFB : Hid (me ≠ 0 → mx = nx ∧ mL = ns) := Lib.hid (fun h => by
            rw [hmx, if_neg h, hmL, makeL, if_neg (by rw [← hme]; exact h)]
            exact ⟨rfl, rfl⟩)
          have HRA : Hid (re = 0 → RiseS rL ∧ rL.length ≤ 1000000 ∧ findE rL p ≠ 0 ∧ rL.length + 1 = ns.length) := Lib.hid (fun h => by
            rw [hre] at h
            have hfe : findE ns p = 0 := by
              unfold removeE at h
              split at h
              · assumption
              · rename_i h2; exact absurd h h2
            obtain ⟨_, k, hk, hkp, _⟩ := findE_zero hr hfe
            rw [hrL, removeL, if_pos h]
            exact ⟨dropN_rise hr p, Nat.le_trans (dropN_le ns p) (by omega), find_none (dropN_not ns p), dropN_len hr hk hkp⟩)
          have HFIT := Lib.hid hfit
          have HPL := Lib.hid (And.intro hpl htl)
          have HOL := Lib.hid (And.intro ho hfo)
          have hzn : ((mkB ([] : List UInt8)).toList == []) = true := by rw [mkB_toList]; rfl
          have hzn2 : (mkB ([] : List UInt8)).toList.isEmpty = true := by rw [mkB_toList]; rfl
          have hdd : (dir == dir) = true := beq_self_eq_true dir
          have hdd2 : (dir != dir) = false := by cases dir <;> rfl
          have hnn2 : (nx != nx) = false := by simp
          have hptw : ((mkB p).toList == (mkB tw).toList) = (p == tw) := by rw [mkB_toList, mkB_toList]
          have hl40 : (ns.length : Int) ≤ 40 := by omega
          clear hN hN0 hs hnx hb hf1 hf2 hpl hfit htl hr h40 h1n hnx0 hps hme hmL hmx hre hrL ho hfo
          go_enter Tryz.func3, Tryz.ntmps3
          go_upto_region 4 with (first
            | (go_at_call 6; refine (HFW.out _ ((Below.refl _ _).alloc (Nat.le_refl _) _)).mono ?_; rintro e w1 ⟨rfl, hb1⟩; have HB1 := Lib.hid hb1; have z10 := cell_at (o := 0) (HZ.out _ hb1).2 rfl; have z11 := cell_at (o := 1) (HZ.out _ hb1).2 rfl; clear hb1)
            | (go_at_call 7; refine (HFI.out _ (HZ.out _ HB1.out).1).mono ?_; rintro e w2 ⟨rfl, hb2⟩; have HB2 := Lib.hid (HB1.out.trans (hb2.mono HB1.out.size)); have z20 := cell_at (o := 0) (HZ.out _ HB2.out).2 rfl; have z21 := cell_at (o := 1) (HZ.out _ HB2.out).2 rfl; clear hb2)
            | (go_at_call 9; refine (HFT.out _ (HZ.out _ HB2.out).1).mono ?_; rintro e w3 ⟨rfl, hb3⟩; have HB3 := Lib.hid (HB2.out.trans (hb3.mono HB2.out.size)); clear hb3))
          clear z10 z11 z20 z21 HB1 HB2 HFW HFI HFT
          obtain ⟨T1, hT1⟩ : ∃ T, T = w3.alloc (.cells (nodeV o) 28) := ⟨_, rfl⟩
          have HK1 : Hid (∀ w, Below T1.heap.size T1 w → (Keep W (keepV (.slice q ns.length c) nx) w) ∧ w.heap[w3.heap.size]? = some (.cells (nodeV o) 28)) := Lib.hid (fun w h => by rw [hT1] at h; exact ⟨HZ.out w (below_step HB3.out h).1, (below_step HB3.out h).2⟩)
          rw [← hT1]
          clear hT1
          obtain ⟨G9, hG9⟩ : ∃ G, G = w3.heap.size := ⟨_, rfl⟩
          rw [← hG9] at HK1 ⊢
          clear hG9
          have s0 := cell_at (o := 0) (HK1.out T1 (Below.refl _ _)).1.2 rfl
          have s1 := cell_at (o := 1) (HK1.out T1 (Below.refl _ _)).1.2 rfl
          go_upto_region 5 with (go_at_call 10; refine (HMK.out _ (HK1.out T1 (Below.refl _ _)).1.1).mono ?_; rintro e w4 ⟨v4, rfl, hn4, hb4⟩; have HB4 := Lib.hid hb4; have HN4 := Lib.hid hn4; obtain ⟨q4, c4, rfl⟩ := nodesV_slice hn4; clear hb4 hn4)
          clear s0 s1
          obtain ⟨T2, hT2⟩ : ∃ T, T = w4.alloc (.cells (keepV (.slice q4 mL.length c4) mx) 24) := ⟨_, rfl⟩
          have HK2 : Hid (∀ w, Below T2.heap.size T2 w → ((Keep W (keepV (.slice q ns.length c) nx) w) ∧ w.heap[G9]? = some (.cells (nodeV o) 28)) ∧ w.heap[w4.heap.size]? = some (.cells (keepV (.slice q4 mL.length c4) mx) 24)) := Lib.hid (fun w h => by rw [hT2] at h; exact ⟨HK1.out w (below_step HB4.out h).1, (below_step HB4.out h).2⟩)
          have HNT : Hid (NodesV T2 (.slice q4 mL.length c4) mL) := Lib.hid (by rw [hT2]; exact nodesV_step _ HN4.out)
          rw [← hT2]
          clear hT2
          obtain ⟨G11, hG11⟩ : ∃ G, G = w4.heap.size := ⟨_, rfl⟩
          rw [← hG11] at HK2 ⊢
          clear hG11
          have a0 := cell_at (o := 0) (HK2.out T2 (Below.refl _ _)).2 rfl
          have a1 := cell_at (o := 1) (HK2.out T2 (Below.refl _ _)).2 rfl
          have s0 := cell_at (o := 0) (HK2.out T2 (Below.refl _ _)).1.1.2 rfl
          have s1 := cell_at (o := 1) (HK2.out T2 (Below.refl _ _)).1.1.2 rfl
          by_cases hm0 : me = 0
          · obtain ⟨h1, h2, h3, h4, h5, h6⟩ := HFA.out hm0
            subst hm0
            have HFX := Lib.hid (HFN.out mL p T2 (.slice q4 mL.length c4) mx h3 h4 HPL.out.1 HNT.out)
            rw [h5, h6] at HFX
            have hfo0 : ¬ (fo = 0) := h2
            clear h1 h2 h3 h4 h5 h6
            go_upto_region 7 with (go_at_call 9; refine HFX.out.mono ?_; rintro e w6 ⟨rfl, hb6⟩; have HB6 := Lib.hid hb6; clear hb6)
            clear a0 a1 s0 s1
            obtain ⟨T3, hT3⟩ : ∃ T, T = w6.alloc (.cells (nodeV (⟨p, dir, [], nx⟩ : NodeD)) 28) := ⟨_, rfl⟩
            have HK3 : Hid (∀ w, Below T3.heap.size T3 w → (((Keep W (keepV (.slice q ns.length c) nx) w) ∧ w.heap[G9]? = some (.cells (nodeV o) 28)) ∧ w.heap[G11]? = some (.cells (keepV (.slice q4 mL.length c4) mx) 24)) ∧ w.heap[w6.heap.size]? = some (.cells (nodeV (⟨p, dir, [], nx⟩ : NodeD)) 28)) := Lib.hid (fun w h => by rw [hT3] at h; exact ⟨HK2.out w (below_step HB6.out h).1, (below_step HB6.out h).2⟩)
            rw [← hT3]
            clear hT3
            obtain ⟨G13, hG13⟩ : ∃ G, G = w6.heap.size := ⟨_, rfl⟩
            rw [← hG13] at HK3 ⊢
            clear hG13
            have y1 := cell_at (o := 1) (HK3.out T3 (Below.refl _ _)).2 rfl
            have y2 := cell_at (o := 2) (HK3.out T3 (Below.refl _ _)).2 rfl
            have y3 := cell_at (o := 3) (HK3.out T3 (Below.refl _ _)).2 rfl
            have s1 := cell_at (o := 1) (HK3.out T3 (Below.refl _ _)).1.1.1.2 rfl
            go_upto_region 11 with fail
            have HK4 : Hid (∀ w, Below T3.heap.size T3 w → ((Keep W (keepV (.slice q ns.length c) nx) w) ∧ w.heap[G9]? = some (.cells (nodeV o) 28))) := Lib.hid (fun w h => (HK3.out w h).1.1)
            clear y1 y2 y3 s1 HK3
            obtain ⟨TM, hTM⟩ : ∃ T, T = T3 := ⟨_, rfl⟩
            rw [← hTM] at HK4 ⊢
            clear hTM
            clear HMK HFA HFB HB4 HN4 HNT
            have s0 := cell_at (o := 0) (HK4.out TM (Below.refl _ _)).1.2 rfl
            have s1 := cell_at (o := 1) (HK4.out TM (Below.refl _ _)).1.2 rfl
            go_upto_region 12 with (go_at_call 12; refine (HRM.out _ (HK4.out TM (Below.refl _ _)).1.1).mono ?_; rintro e w7 ⟨v7, rfl, hn7, hb7⟩; have HB7 := Lib.hid hb7; have HN7 := Lib.hid hn7; obtain ⟨q7, c7, rfl⟩ := nodesV_slice hn7; clear hb7 hn7)
            clear s0 s1 HRM
            obtain ⟨T5, hT5⟩ : ∃ T, T = w7.alloc (.cells (keepV (.slice q7 rL.length c7) nx) 24) := ⟨_, rfl⟩
            have HK5 : Hid (∀ w, Below T5.heap.size T5 w → ((Keep W (keepV (.slice q ns.length c) nx) w) ∧ w.heap[G9]? = some (.cells (nodeV o) 28)) ∧ w.heap[w7.heap.size]? = some (.cells (keepV (.slice q7 rL.length c7) nx) 24)) := Lib.hid (fun w h => by rw [hT5] at h; exact ⟨HK4.out w (below_step HB7.out h).1, (below_step HB7.out h).2⟩)
            have HNR : Hid (NodesV T5 (.slice q7 rL.length c7) rL) := Lib.hid (by rw [hT5]; exact nodesV_step _ HN7.out)
            rw [← hT5]
            clear hT5
            obtain ⟨G15, hG15⟩ : ∃ G, G = w7.heap.size := ⟨_, rfl⟩
            rw [← hG15] at HK5 ⊢
            clear hG15
            have a0 := cell_at (o := 0) (HK5.out T5 (Below.refl _ _)).2 rfl
            have a1 := cell_at (o := 1) (HK5.out T5 (Below.refl _ _)).2 rfl
            by_cases hr0 : re = 0
            · obtain ⟨h1, h2, h3, h4⟩ := HRA.out hr0
              subst hr0
              have HFX := Lib.hid (HFN.out rL p T5 (.slice q7 rL.length c7) nx h1 h2 HPL.out.1 HNR.out)
              have hlr : (rL.length : Int) = (ns.length : Int) - 1 := by omega
              have hlr2 : ((rL.length : Int) == (ns.length : Int) - 1) = true := beq_iff_eq.2 hlr
              generalize findE rL p = fb at HFX h3
              generalize foundN rL p = yb at HFX
              have hfb : ¬ (fb = 0) := h3
              clear h1 h2 h3 h4 HRA
              go_upto_region 14 with (go_at_call 9; refine HFX.out.mono ?_; rintro e w8 ⟨rfl, hb8⟩; have HB8 := Lib.hid hb8; clear hb8)
              clear a0 a1
              obtain ⟨T6, hT6⟩ : ∃ T, T = w8.alloc (.cells (nodeV yb) 28) := ⟨_, rfl⟩
              have HK6 : Hid (∀ w, Below T6.heap.size T6 w → (((Keep W (keepV (.slice q ns.length c) nx) w) ∧ w.heap[G9]? = some (.cells (nodeV o) 28)) ∧ w.heap[G15]? = some (.cells (keepV (.slice q7 rL.length c7) nx) 24)) ∧ w.heap[w8.heap.size]? = some (.cells (nodeV yb) 28)) := Lib.hid (fun w h => by rw [hT6] at h; exact ⟨HK5.out w (below_step HB8.out h).1, (below_step HB8.out h).2⟩)
              rw [← hT6]
              clear hT6
              obtain ⟨G17, hG17⟩ : ∃ G, G = w8.heap.size := ⟨_, rfl⟩
              rw [← hG17] at HK6 ⊢
              clear hG17
              have a0 := cell_at (o := 0) (HK6.out T6 (Below.refl _ _)).1.2 rfl
              have s0 := cell_at (o := 0) (HK6.out T6 (Below.refl _ _)).1.1.1.2 rfl
              go_upto_region 16 with fail
              have HK7 : Hid (∀ w, Below T6.heap.size T6 w → ((Keep W (keepV (.slice q ns.length c) nx) w) ∧ w.heap[G9]? = some (.cells (nodeV o) 28))) := Lib.hid (fun w h => (HK6.out w h).1.1)
              clear a0 s0 HK6 hlr hlr2 hfb
              obtain ⟨TR, hTR⟩ : ∃ T, T = T6 := ⟨_, rfl⟩
              rw [← hTR] at HK7 ⊢
              clear hTR
              have s0 := cell_at (o := 0) (HK7.out TR (Below.refl _ _)).1.2 rfl
              have s1 := cell_at (o := 1) (HK7.out TR (Below.refl _ _)).1.2 rfl
              go_upto_region 17 with (go_at_call 13; refine (HRN.out _ (HK7.out TR (Below.refl _ _)).1.1).mono ?_; rintro e w10 ⟨v10, E, l, rfl, hn10, hans, hb10⟩; have HB10 := Lib.hid hb10; have HN10 := Lib.hid hn10; have HAN := Lib.hid hans; obtain ⟨q10, c10, rfl⟩ := nodesV_slice hn10; clear hb10 hn10 hans)
              clear s0 s1 HRN
              obtain ⟨T8, hT8⟩ : ∃ T, T = w10.alloc (.cells (keepV (.slice q10 l.length c10) nx) 24) := ⟨_, rfl⟩
              have HK8 : Hid (∀ w, Below T8.heap.size T8 w → ((Keep W (keepV (.slice q ns.length c) nx) w) ∧ w.heap[G9]? = some (.cells (nodeV o) 28)) ∧ w.heap[w10.heap.size]? = some (.cells (keepV (.slice q10 l.length c10) nx) 24)) := Lib.hid (fun w h => by rw [hT8] at h; exact ⟨HK7.out w (below_step HB10.out h).1, (below_step HB10.out h).2⟩)
              have HNC : Hid (NodesV T8 (.slice q10 l.length c10) l) := Lib.hid (by rw [hT8]; exact nodesV_step _ HN10.out)
              rw [← hT8]
              clear hT8
              obtain ⟨G19, hG19⟩ : ∃ G, G = w10.heap.size := ⟨_, rfl⟩
              rw [← hG19] at HK8 ⊢
              clear hG19
              have a0 := cell_at (o := 0) (HK8.out T8 (Below.refl _ _)).2 rfl
              have a1 := cell_at (o := 1) (HK8.out T8 (Below.refl _ _)).2 rfl
              have s0 := cell_at (o := 0) (HK8.out T8 (Below.refl _ _)).1.1.2 rfl
              have s1 := cell_at (o := 1) (HK8.out T8 (Below.refl _ _)).1.1.2 rfl
              by_cases hE : E = 0
              · have hfin : ∃ x : NodeD, RiseS l ∧ l.length ≤ 1000000 ∧ findE l tw = 0 ∧ foundN l tw = x ∧ x.id = o.id ∧ x.data = o.data ∧ x.dir = o.dir ∧ (findE l p ≠ 0 ∨ p = tw) := finds_end HFIT.out HOL.out.1 (hE ▸ HAN.out)
                obtain ⟨x, h1, h2, h3, h4, h5, h6, h7, h8⟩ := hfin
                subst hE
                have H567 := Lib.hid (And.intro h5 (And.intro h6 h7))
                have H8 := Lib.hid h8
                clear h5 h6 h7
                have HFX := Lib.hid (fun W' hv => HFN.out l tw W' (.slice q10 l.length c10) nx h1 h2 HPL.out.2 hv)
                have HFY := Lib.hid (fun W' hv => HFN.out l p W' (.slice q10 l.length c10) nx h1 h2 HPL.out.1 hv)
                rw [h3, h4] at HFX
                obtain ⟨fg, hfg⟩ : ∃ fg, fg = findE l p := ⟨_, rfl⟩
                rw [← hfg] at HFY H8
                generalize foundN l p = yg at HFY
                clear hfg h1 h2 h3 h4 h8
                go_upto_region 20 with (go_at_call 9; refine (HFX.out _ HNC.out).mono ?_; rintro e w11 ⟨rfl, hb11⟩; have HB11 := Lib.hid hb11; clear hb11)
                clear a0 a1 s0 s1
                obtain ⟨T9, hT9⟩ : ∃ T, T = w11.alloc (.cells (nodeV x) 28) := ⟨_, rfl⟩
                have HK9 : Hid (∀ w, Below T9.heap.size T9 w → (((Keep W (keepV (.slice q ns.length c) nx) w) ∧ w.heap[G9]? = some (.cells (nodeV o) 28)) ∧ w.heap[G19]? = some (.cells (keepV (.slice q10 l.length c10) nx) 24)) ∧ w.heap[w11.heap.size]? = some (.cells (nodeV x) 28)) := Lib.hid (fun w h => by rw [hT9] at h; exact ⟨HK8.out w (below_step HB11.out h).1, (below_step HB11.out h).2⟩)
                have HNG : Hid (NodesV T9 (.slice q10 l.length c10) l) := Lib.hid (by rw [hT9]; exact nodesV_step _ (HNC.out.below HB11.out))
                rw [← hT9]
                clear hT9
                obtain ⟨G21, hG21⟩ : ∃ G, G = w11.heap.size := ⟨_, rfl⟩
                rw [← hG21] at HK9 ⊢
                clear hG21
                have a0 := cell_at (o := 0) (HK9.out T9 (Below.refl _ _)).1.2 rfl
                have a1 := cell_at (o := 1) (HK9.out T9 (Below.refl _ _)).1.2 rfl
                go_upto_region 21 with (go_at_call 9; refine (HFY.out _ HNG.out).mono ?_; rintro e w12 ⟨rfl, hb12⟩; have HB12 := Lib.hid hb12; clear hb12)
                clear a0 a1
                obtain ⟨TA, hTA⟩ : ∃ T, T = w12.alloc (.cells (nodeV yg) 28) := ⟨_, rfl⟩
                have HKA : Hid (∀ w, Below TA.heap.size TA w → ((((Keep W (keepV (.slice q ns.length c) nx) w) ∧ w.heap[G9]? = some (.cells (nodeV o) 28)) ∧ w.heap[G19]? = some (.cells (keepV (.slice q10 l.length c10) nx) 24)) ∧ w.heap[G21]? = some (.cells (nodeV x) 28)) ∧ w.heap[w12.heap.size]? = some (.cells (nodeV yg) 28)) := Lib.hid (fun w h => by rw [hTA] at h; exact ⟨HK9.out w (below_step HB12.out h).1, (below_step HB12.out h).2⟩)
                rw [← hTA]
                clear hTA
                obtain ⟨G23, hG23⟩ : ∃ G, G = w12.heap.size := ⟨_, rfl⟩
                rw [← hG23] at HKA ⊢
                clear hG23
                have x1 : TA.cell? ⟨G21, 1, none⟩ = some (.bool o.dir) := by rw [← H567.out.2.2]; exact cell_at (o := 1) (HKA.out TA (Below.refl _ _)).1.2 rfl
                have x2 : TA.cell? ⟨G21, 2, none⟩ = some (.string (mkB o.data)) := by rw [← H567.out.2.1]; exact cell_at (o := 2) (HKA.out TA (Below.refl _ _)).1.2 rfl
                have x3 : TA.cell? ⟨G21, 3, none⟩ = some (.int .i64 o.id) := by rw [← H567.out.1]; exact cell_at (o := 3) (HKA.out TA (Below.refl _ _)).1.2 rfl
                have o1 : TA.cell? ⟨G9, 1, none⟩ = some (.bool o.dir) := cell_at (o := 1) (HKA.out TA (Below.refl _ _)).1.1.1.2 rfl
                have o2 : TA.cell? ⟨G9, 2, none⟩ = some (.string (mkB o.data)) := cell_at (o := 2) (HKA.out TA (Below.refl _ _)).1.1.1.2 rfl
                have o3 : TA.cell? ⟨G9, 3, none⟩ = some (.int .i64 o.id) := cell_at (o := 3) (HKA.out TA (Below.refl _ _)).1.1.1.2 rfl
                have hid : (o.id == o.id) = true := beq_self_eq_true _
                have hdt : ((mkB o.data).toList == (mkB o.data).toList) = true := beq_self_eq_true _
                have hdi : (o.dir == o.dir) = true := beq_self_eq_true _
                generalize o.id = oi at x3 o3 hid
                generalize o.data = od at x2 o2 hdt
                generalize o.dir = oo at x1 o1 hdi
                clear H567
                by_cases hg0 : fg = 0
                · have hpt : (p == tw) = true := beq_iff_eq.2 (H8.out.resolve_left (fun h => h hg0))
                  rw [hpt] at hptw
                  subst hg0
                  clear H8 hpt
                  go_wp2_with (go_at_call 8; refine (HAW.out _).mono ?_; rintro e w13 ⟨rfl, hb13⟩; have HBF := Lib.hid (HKA.out _ hb13).1.1.1.1.1; clear hb13)
                  go_ret
                  exact ⟨rfl, HBF.out⟩
                · have hgi : ¬ (fg = 0) := hg0
                  clear H8
                  go_wp2_with (go_at_call 8; refine (HAW.out _).mono ?_; rintro e w13 ⟨rfl, hb13⟩; have HBF := Lib.hid (HKA.out _ hb13).1.1.1.1.1; clear hb13)
                  go_ret
                  exact ⟨rfl, HBF.out⟩
              · have hlE : l = ns := finds_bad HAN.out hE
                subst hlE
                have hEi : ¬ (E = 0) := hE
                go_wp2_with (first
                  | (go_at_call 11; refine (HSA.out T8 _ (HK8.out T8 (Below.refl _ _)).1.1.1 HNC.out).mono ?_; rintro e w11 ⟨rfl, hb11⟩; have HB11 := Lib.hid hb11; clear hb11)
                  | (go_at_call 8; refine (HAW.out _).mono ?_; rintro e w13 ⟨rfl, hb13⟩; have HBF := Lib.hid (HK8.out _ (HB11.out.trans (hb13.mono HB11.out.size))).1.1.1; clear hb13))
                go_ret
                exact ⟨rfl, HBF.out⟩
            · have hrei : ¬ (re = 0) := hr0
              go_upto_region 16 with fail
              have HK7 : Hid (∀ w, Below T5.heap.size T5 w → ((Keep W (keepV (.slice q ns.length c) nx) w) ∧ w.heap[G9]? = some (.cells (nodeV o) 28))) := Lib.hid (fun w h => (HK5.out w h).1)
              clear a0 a1 HRA
              obtain ⟨TR, hTR⟩ : ∃ T, T = T5 := ⟨_, rfl⟩
              rw [← hTR] at HK7 ⊢
              clear hTR
              have s0 := cell_at (o := 0) (HK7.out TR (Below.refl _ _)).1.2 rfl
              have s1 := cell_at (o := 1) (HK7.out TR (Below.refl _ _)).1.2 rfl
              go_upto_region 17 with (go_at_call 13; refine (HRN.out _ (HK7.out TR (Below.refl _ _)).1.1).mono ?_; rintro e w10 ⟨v10, E, l, rfl, hn10, hans, hb10⟩; have HB10 := Lib.hid hb10; have HN10 := Lib.hid hn10; have HAN := Lib.hid hans; obtain ⟨q10, c10, rfl⟩ := nodesV_slice hn10; clear hb10 hn10 hans)
              clear s0 s1 HRN
              obtain ⟨T8, hT8⟩ : ∃ T, T = w10.alloc (.cells (keepV (.slice q10 l.length c10) nx) 24) := ⟨_, rfl⟩
              have HK8 : Hid (∀ w, Below T8.heap.size T8 w → ((Keep W (keepV (.slice q ns.length c) nx) w) ∧ w.heap[G9]? = some (.cells (nodeV o) 28)) ∧ w.heap[w10.heap.size]? = some (.cells (keepV (.slice q10 l.length c10) nx) 24)) := Lib.hid (fun w h => by rw [hT8] at h; exact ⟨HK7.out w (below_step HB10.out h).1, (below_step HB10.out h).2⟩)
              have HNC : Hid (NodesV T8 (.slice q10 l.length c10) l) := Lib.hid (by rw [hT8]; exact nodesV_step _ HN10.out)
              rw [← hT8]
              clear hT8
              obtain ⟨G19, hG19⟩ : ∃ G, G = w10.heap.size := ⟨_, rfl⟩
              rw [← hG19] at HK8 ⊢
              clear hG19
              have a0 := cell_at (o := 0) (HK8.out T8 (Below.refl _ _)).2 rfl
              have a1 := cell_at (o := 1) (HK8.out T8 (Below.refl _ _)).2 rfl
              have s0 := cell_at (o := 0) (HK8.out T8 (Below.refl _ _)).1.1.2 rfl
              have s1 := cell_at (o := 1) (HK8.out T8 (Below.refl _ _)).1.1.2 rfl
              by_cases hE : E = 0
              · have hfin : ∃ x : NodeD, RiseS l ∧ l.length ≤ 1000000 ∧ findE l tw = 0 ∧ foundN l tw = x ∧ x.id = o.id ∧ x.data = o.data ∧ x.dir = o.dir ∧ (findE l p ≠ 0 ∨ p = tw) := finds_end HFIT.out HOL.out.1 (hE ▸ HAN.out)
                obtain ⟨x, h1, h2, h3, h4, h5, h6, h7, h8⟩ := hfin
                subst hE
                have H567 := Lib.hid (And.intro h5 (And.intro h6 h7))
                have H8 := Lib.hid h8
                clear h5 h6 h7
                have HFX := Lib.hid (fun W' hv => HFN.out l tw W' (.slice q10 l.length c10) nx h1 h2 HPL.out.2 hv)
                have HFY := Lib.hid (fun W' hv => HFN.out l p W' (.slice q10 l.length c10) nx h1 h2 HPL.out.1 hv)
                rw [h3, h4] at HFX
                obtain ⟨fg, hfg⟩ : ∃ fg, fg = findE l p := ⟨_, rfl⟩
                rw [← hfg] at HFY H8
                generalize foundN l p = yg at HFY
                clear hfg h1 h2 h3 h4 h8
                go_upto_region 20 with (go_at_call 9; refine (HFX.out _ HNC.out).mono ?_; rintro e w11 ⟨rfl, hb11⟩; have HB11 := Lib.hid hb11; clear hb11)
                clear a0 a1 s0 s1
                obtain ⟨T9, hT9⟩ : ∃ T, T = w11.alloc (.cells (nodeV x) 28) := ⟨_, rfl⟩
                have HK9 : Hid (∀ w, Below T9.heap.size T9 w → (((Keep W (keepV (.slice q ns.length c) nx) w) ∧ w.heap[G9]? = some (.cells (nodeV o) 28)) ∧ w.heap[G19]? = some (.cells (keepV (.slice q10 l.length c10) nx) 24)) ∧ w.heap[w11.heap.size]? = some (.cells (nodeV x) 28)) := Lib.hid (fun w h => by rw [hT9] at h; exact ⟨HK8.out w (below_step HB11.out h).1, (below_step HB11.out h).2⟩)
                have HNG : Hid (NodesV T9 (.slice q10 l.length c10) l) := Lib.hid (by rw [hT9]; exact nodesV_step _ (HNC.out.below HB11.out))
                rw [← hT9]
                clear hT9
                obtain ⟨G21, hG21⟩ : ∃ G, G = w11.heap.size := ⟨_, rfl⟩
                rw [← hG21] at HK9 ⊢
                clear hG21
                have a0 := cell_at (o := 0) (HK9.out T9 (Below.refl _ _)).1.2 rfl
                have a1 := cell_at (o := 1) (HK9.out T9 (Below.refl _ _)).1.2 rfl
                go_upto_region 21 with (go_at_call 9; refine (HFY.out _ HNG.out).mono ?_; rintro e w12 ⟨rfl, hb12⟩; have HB12 := Lib.hid hb12; clear hb12)
                clear a0 a1
                obtain ⟨TA, hTA⟩ : ∃ T, T = w12.alloc (.cells (nodeV yg) 28) := ⟨_, rfl⟩
                have HKA : Hid (∀ w, Below TA.heap.size TA w → ((((Keep W (keepV (.slice q ns.length c) nx) w) ∧ w.heap[G9]? = some (.cells (nodeV o) 28)) ∧ w.heap[G19]? = some (.cells (keepV (.slice q10 l.length c10) nx) 24)) ∧ w.heap[G21]? = some (.cells (nodeV x) 28)) ∧ w.heap[w12.heap.size]? = some (.cells (nodeV yg) 28)) := Lib.hid (fun w h => by rw [hTA] at h; exact ⟨HK9.out w (below_step HB12.out h).1, (below_step HB12.out h).2⟩)
                rw [← hTA]
                clear hTA
                obtain ⟨G23, hG23⟩ : ∃ G, G = w12.heap.size := ⟨_, rfl⟩
                rw [← hG23] at HKA ⊢
                clear hG23
                have x1 : TA.cell? ⟨G21, 1, none⟩ = some (.bool o.dir) := by rw [← H567.out.2.2]; exact cell_at (o := 1) (HKA.out TA (Below.refl _ _)).1.2 rfl
                have x2 : TA.cell? ⟨G21, 2, none⟩ = some (.string (mkB o.data)) := by rw [← H567.out.2.1]; exact cell_at (o := 2) (HKA.out TA (Below.refl _ _)).1.2 rfl
                have x3 : TA.cell? ⟨G21, 3, none⟩ = some (.int .i64 o.id) := by rw [← H567.out.1]; exact cell_at (o := 3) (HKA.out TA (Below.refl _ _)).1.2 rfl
                have o1 : TA.cell? ⟨G9, 1, none⟩ = some (.bool o.dir) := cell_at (o := 1) (HKA.out TA (Below.refl _ _)).1.1.1.2 rfl
                have o2 : TA.cell? ⟨G9, 2, none⟩ = some (.string (mkB o.data)) := cell_at (o := 2) (HKA.out TA (Below.refl _ _)).1.1.1.2 rfl
                have o3 : TA.cell? ⟨G9, 3, none⟩ = some (.int .i64 o.id) := cell_at (o := 3) (HKA.out TA (Below.refl _ _)).1.1.1.2 rfl
                have hid : (o.id == o.id) = true := beq_self_eq_true _
                have hdt : ((mkB o.data).toList == (mkB o.data).toList) = true := beq_self_eq_true _
                have hdi : (o.dir == o.dir) = true := beq_self_eq_true _
                generalize o.id = oi at x3 o3 hid
                generalize o.data = od at x2 o2 hdt
                generalize o.dir = oo at x1 o1 hdi
                clear H567
                by_cases hg0 : fg = 0
                · have hpt : (p == tw) = true := beq_iff_eq.2 (H8.out.resolve_left (fun h => h hg0))
                  rw [hpt] at hptw
                  subst hg0
                  clear H8 hpt
                  go_wp2_with (go_at_call 8; refine (HAW.out _).mono ?_; rintro e w13 ⟨rfl, hb13⟩; have HBF := Lib.hid (HKA.out _ hb13).1.1.1.1.1; clear hb13)
                  go_ret
                  exact ⟨rfl, HBF.out⟩
                · have hgi : ¬ (fg = 0) := hg0
                  clear H8
                  go_wp2_with (go_at_call 8; refine (HAW.out _).mono ?_; rintro e w13 ⟨rfl, hb13⟩; have HBF := Lib.hid (HKA.out _ hb13).1.1.1.1.1; clear hb13)
                  go_ret
                  exact ⟨rfl, HBF.out⟩
              · have hlE : l = ns := finds_bad HAN.out hE
                subst hlE
                have hEi : ¬ (E = 0) := hE
                go_wp2_with (first
                  | (go_at_call 11; refine (HSA.out T8 _ (HK8.out T8 (Below.refl _ _)).1.1.1 HNC.out).mono ?_; rintro e w11 ⟨rfl, hb11⟩; have HB11 := Lib.hid hb11; clear hb11)
                  | (go_at_call 8; refine (HAW.out _).mono ?_; rintro e w13 ⟨rfl, hb13⟩; have HBF := Lib.hid (HK8.out _ (HB11.out.trans (hb13.mono HB11.out.size))).1.1.1; clear hb13))
                go_ret
                exact ⟨rfl, HBF.out⟩
          · obtain ⟨h1, h2⟩ := HFB.out hm0
            obtain rfl : nx = mx := h1.symm
            obtain rfl : ns = mL := h2.symm
            clear h1 h2
            have hmei : ¬ (me = 0) := hm0
            go_upto_region 11 with (go_at_call 11; refine (HSA.out T2 _ (HK2.out T2 (Below.refl _ _)).1.1.1 HNT.out).mono ?_; rintro e w6 ⟨rfl, hb6⟩; have HB6 := Lib.hid hb6; clear hb6)
            have HK4 : Hid (∀ w, Below w6.heap.size w6 w → ((Keep W (keepV (.slice q ns.length c) nx) w) ∧ w.heap[G9]? = some (.cells (nodeV o) 28))) := Lib.hid (fun w h => (HK2.out w (HB6.out.trans (h.mono HB6.out.size))).1)
            clear a0 a1 s0 s1
            obtain ⟨TM, hTM⟩ : ∃ T, T = w6 := ⟨_, rfl⟩
            rw [← hTM] at HK4 ⊢
            clear hTM
            clear HMK HFA HFB HB4 HN4 HNT
            have s0 := cell_at (o := 0) (HK4.out TM (Below.refl _ _)).1.2 rfl
            have s1 := cell_at (o := 1) (HK4.out TM (Below.refl _ _)).1.2 rfl
            go_upto_region 12 with (go_at_call 12; refine (HRM.out _ (HK4.out TM (Below.refl _ _)).1.1).mono ?_; rintro e w7 ⟨v7, rfl, hn7, hb7⟩; have HB7 := Lib.hid hb7; have HN7 := Lib.hid hn7; obtain ⟨q7, c7, rfl⟩ := nodesV_slice hn7; clear hb7 hn7)
            clear s0 s1 HRM
            obtain ⟨T5, hT5⟩ : ∃ T, T = w7.alloc (.cells (keepV (.slice q7 rL.length c7) nx) 24) := ⟨_, rfl⟩
            have HK5 : Hid (∀ w, Below T5.heap.size T5 w → ((Keep W (keepV (.slice q ns.length c) nx) w) ∧ w.heap[G9]? = some (.cells (nodeV o) 28)) ∧ w.heap[w7.heap.size]? = some (.cells (keepV (.slice q7 rL.length c7) nx) 24)) := Lib.hid (fun w h => by rw [hT5] at h; exact ⟨HK4.out w (below_step HB7.out h).1, (below_step HB7.out h).2⟩)
            have HNR : Hid (NodesV T5 (.slice q7 rL.length c7) rL) := Lib.hid (by rw [hT5]; exact nodesV_step _ HN7.out)
            rw [← hT5]
            clear hT5
            obtain ⟨G15, hG15⟩ : ∃ G, G = w7.heap.size := ⟨_, rfl⟩
            rw [← hG15] at HK5 ⊢
            clear hG15
            have a0 := cell_at (o := 0) (HK5.out T5 (Below.refl _ _)).2 rfl
            have a1 := cell_at (o := 1) (HK5.out T5 (Below.refl _ _)).2 rfl
            by_cases hr0 : re = 0
            · obtain ⟨h1, h2, h3, h4⟩ := HRA.out hr0
              subst hr0
              have HFX := Lib.hid (HFN.out rL p T5 (.slice q7 rL.length c7) nx h1 h2 HPL.out.1 HNR.out)
              have hlr : (rL.length : Int) = (ns.length : Int) - 1 := by omega
              have hlr2 : ((rL.length : Int) == (ns.length : Int) - 1) = true := beq_iff_eq.2 hlr
              generalize findE rL p = fb at HFX h3
              generalize foundN rL p = yb at HFX
              have hfb : ¬ (fb = 0) := h3
              clear h1 h2 h3 h4 HRA
              go_upto_region 14 with (go_at_call 9; refine HFX.out.mono ?_; rintro e w8 ⟨rfl, hb8⟩; have HB8 := Lib.hid hb8; clear hb8)
              clear a0 a1
              obtain ⟨T6, hT6⟩ : ∃ T, T = w8.alloc (.cells (nodeV yb) 28) := ⟨_, rfl⟩
              have HK6 : Hid (∀ w, Below T6.heap.size T6 w → (((Keep W (keepV (.slice q ns.length c) nx) w) ∧ w.heap[G9]? = some (.cells (nodeV o) 28)) ∧ w.heap[G15]? = some (.cells (keepV (.slice q7 rL.length c7) nx) 24)) ∧ w.heap[w8.heap.size]? = some (.cells (nodeV yb) 28)) := Lib.hid (fun w h => by rw [hT6] at h; exact ⟨HK5.out w (below_step HB8.out h).1, (below_step HB8.out h).2⟩)
              rw [← hT6]
              clear hT6
              obtain ⟨G17, hG17⟩ : ∃ G, G = w8.heap.size := ⟨_, rfl⟩
              rw [← hG17] at HK6 ⊢
              clear hG17
              have a0 := cell_at (o := 0) (HK6.out T6 (Below.refl _ _)).1.2 rfl
              have s0 := cell_at (o := 0) (HK6.out T6 (Below.refl _ _)).1.1.1.2 rfl
              go_upto_region 16 with fail
              have HK7 : Hid (∀ w, Below T6.heap.size T6 w → ((Keep W (keepV (.slice q ns.length c) nx) w) ∧ w.heap[G9]? = some (.cells (nodeV o) 28))) := Lib.hid (fun w h => (HK6.out w h).1.1)
              clear a0 s0 HK6 hlr hlr2 hfb
              obtain ⟨TR, hTR⟩ : ∃ T, T = T6 := ⟨_, rfl⟩
              rw [← hTR] at HK7 ⊢
              clear hTR
              have s0 := cell_at (o := 0) (HK7.out TR (Below.refl _ _)).1.2 rfl
              have s1 := cell_at (o := 1) (HK7.out TR (Below.refl _ _)).1.2 rfl
              go_upto_region 17 with (go_at_call 13; refine (HRN.out _ (HK7.out TR (Below.refl _ _)).1.1).mono ?_; rintro e w10 ⟨v10, E, l, rfl, hn10, hans, hb10⟩; have HB10 := Lib.hid hb10; have HN10 := Lib.hid hn10; have HAN := Lib.hid hans; obtain ⟨q10, c10, rfl⟩ := nodesV_slice hn10; clear hb10 hn10 hans)
              clear s0 s1 HRN
              obtain ⟨T8, hT8⟩ : ∃ T, T = w10.alloc (.cells (keepV (.slice q10 l.length c10) nx) 24) := ⟨_, rfl⟩
              have HK8 : Hid (∀ w, Below T8.heap.size T8 w → ((Keep W (keepV (.slice q ns.length c) nx) w) ∧ w.heap[G9]? = some (.cells (nodeV o) 28)) ∧ w.heap[w10.heap.size]? = some (.cells (keepV (.slice q10 l.length c10) nx) 24)) := Lib.hid (fun w h => by rw [hT8] at h; exact ⟨HK7.out w (below_step HB10.out h).1, (below_step HB10.out h).2⟩)
              have HNC : Hid (NodesV T8 (.slice q10 l.length c10) l) := Lib.hid (by rw [hT8]; exact nodesV_step _ HN10.out)
              rw [← hT8]
              clear hT8
              obtain ⟨G19, hG19⟩ : ∃ G, G = w10.heap.size := ⟨_, rfl⟩
              rw [← hG19] at HK8 ⊢
              clear hG19
              have a0 := cell_at (o := 0) (HK8.out T8 (Below.refl _ _)).2 rfl
              have a1 := cell_at (o := 1) (HK8.out T8 (Below.refl _ _)).2 rfl
              have s0 := cell_at (o := 0) (HK8.out T8 (Below.refl _ _)).1.1.2 rfl
              have s1 := cell_at (o := 1) (HK8.out T8 (Below.refl _ _)).1.1.2 rfl
              by_cases hE : E = 0
              · have hfin : ∃ x : NodeD, RiseS l ∧ l.length ≤ 1000000 ∧ findE l tw = 0 ∧ foundN l tw = x ∧ x.id = o.id ∧ x.data = o.data ∧ x.dir = o.dir ∧ (findE l p ≠ 0 ∨ p = tw) := finds_end HFIT.out HOL.out.1 (hE ▸ HAN.out)
                obtain ⟨x, h1, h2, h3, h4, h5, h6, h7, h8⟩ := hfin
                subst hE
                have H567 := Lib.hid (And.intro h5 (And.intro h6 h7))
                have H8 := Lib.hid h8
                clear h5 h6 h7
                have HFX := Lib.hid (fun W' hv => HFN.out l tw W' (.slice q10 l.length c10) nx h1 h2 HPL.out.2 hv)
                have HFY := Lib.hid (fun W' hv => HFN.out l p W' (.slice q10 l.length c10) nx h1 h2 HPL.out.1 hv)
                rw [h3, h4] at HFX
                obtain ⟨fg, hfg⟩ : ∃ fg, fg = findE l p := ⟨_, rfl⟩
                rw [← hfg] at HFY H8
                generalize foundN l p = yg at HFY
                clear hfg h1 h2 h3 h4 h8
                go_upto_region 20 with (go_at_call 9; refine (HFX.out _ HNC.out).mono ?_; rintro e w11 ⟨rfl, hb11⟩; have HB11 := Lib.hid hb11; clear hb11)
                clear a0 a1 s0 s1
                obtain ⟨T9, hT9⟩ : ∃ T, T = w11.alloc (.cells (nodeV x) 28) := ⟨_, rfl⟩
                have HK9 : Hid (∀ w, Below T9.heap.size T9 w → (((Keep W (keepV (.slice q ns.length c) nx) w) ∧ w.heap[G9]? = some (.cells (nodeV o) 28)) ∧ w.heap[G19]? = some (.cells (keepV (.slice q10 l.length c10) nx) 24)) ∧ w.heap[w11.heap.size]? = some (.cells (nodeV x) 28)) := Lib.hid (fun w h => by rw [hT9] at h; exact ⟨HK8.out w (below_step HB11.out h).1, (below_step HB11.out h).2⟩)
                have HNG : Hid (NodesV T9 (.slice q10 l.length c10) l) := Lib.hid (by rw [hT9]; exact nodesV_step _ (HNC.out.below HB11.out))
                rw [← hT9]
                clear hT9
                obtain ⟨G21, hG21⟩ : ∃ G, G = w11.heap.size := ⟨_, rfl⟩
                rw [← hG21] at HK9 ⊢
                clear hG21
                have a0 := cell_at (o := 0) (HK9.out T9 (Below.refl _ _)).1.2 rfl
                have a1 := cell_at (o := 1) (HK9.out T9 (Below.refl _ _)).1.2 rfl
                go_upto_region 21 with (go_at_call 9; refine (HFY.out _ HNG.out).mono ?_; rintro e w12 ⟨rfl, hb12⟩; have HB12 := Lib.hid hb12; clear hb12)
                clear a0 a1
                obtain ⟨TA, hTA⟩ : ∃ T, T = w12.alloc (.cells (nodeV yg) 28) := ⟨_, rfl⟩
                have HKA : Hid (∀ w, Below TA.heap.size TA w → ((((Keep W (keepV (.slice q ns.length c) nx) w) ∧ w.heap[G9]? = some (.cells (nodeV o) 28)) ∧ w.heap[G19]? = some (.cells (keepV (.slice q10 l.length c10) nx) 24)) ∧ w.heap[G21]? = some (.cells (nodeV x) 28)) ∧ w.heap[w12.heap.size]? = some (.cells (nodeV yg) 28)) := Lib.hid (fun w h => by rw [hTA] at h; exact ⟨HK9.out w (below_step HB12.out h).1, (below_step HB12.out h).2⟩)
                rw [← hTA]
                clear hTA
                obtain ⟨G23, hG23⟩ : ∃ G, G = w12.heap.size := ⟨_, rfl⟩
                rw [← hG23] at HKA ⊢
                clear hG23
                have x1 : TA.cell? ⟨G21, 1, none⟩ = some (.bool o.dir) := by rw [← H567.out.2.2]; exact cell_at (o := 1) (HKA.out TA (Below.refl _ _)).1.2 rfl
                have x2 : TA.cell? ⟨G21, 2, none⟩ = some (.string (mkB o.data)) := by rw [← H567.out.2.1]; exact cell_at (o := 2) (HKA.out TA (Below.refl _ _)).1.2 rfl
                have x3 : TA.cell? ⟨G21, 3, none⟩ = some (.int .i64 o.id) := by rw [← H567.out.1]; exact cell_at (o := 3) (HKA.out TA (Below.refl _ _)).1.2 rfl
                have o1 : TA.cell? ⟨G9, 1, none⟩ = some (.bool o.dir) := cell_at (o := 1) (HKA.out TA (Below.refl _ _)).1.1.1.2 rfl
                have o2 : TA.cell? ⟨G9, 2, none⟩ = some (.string (mkB o.data)) := cell_at (o := 2) (HKA.out TA (Below.refl _ _)).1.1.1.2 rfl
                have o3 : TA.cell? ⟨G9, 3, none⟩ = some (.int .i64 o.id) := cell_at (o := 3) (HKA.out TA (Below.refl _ _)).1.1.1.2 rfl
                have hid : (o.id == o.id) = true := beq_self_eq_true _
                have hdt : ((mkB o.data).toList == (mkB o.data).toList) = true := beq_self_eq_true _
                have hdi : (o.dir == o.dir) = true := beq_self_eq_true _
                generalize o.id = oi at x3 o3 hid
                generalize o.data = od at x2 o2 hdt
                generalize o.dir = oo at x1 o1 hdi
                clear H567
                by_cases hg0 : fg = 0
                · have hpt : (p == tw) = true := beq_iff_eq.2 (H8.out.resolve_left (fun h => h hg0))
                  rw [hpt] at hptw
                  subst hg0
                  clear H8 hpt
                  go_wp2_with (go_at_call 8; refine (HAW.out _).mono ?_; rintro e w13 ⟨rfl, hb13⟩; have HBF := Lib.hid (HKA.out _ hb13).1.1.1.1.1; clear hb13)
                  go_ret
                  exact ⟨rfl, HBF.out⟩
                · have hgi : ¬ (fg = 0) := hg0
                  clear H8
                  go_wp2_with (go_at_call 8; refine (HAW.out _).mono ?_; rintro e w13 ⟨rfl, hb13⟩; have HBF := Lib.hid (HKA.out _ hb13).1.1.1.1.1; clear hb13)
                  go_ret
                  exact ⟨rfl, HBF.out⟩
              · have hlE : l = ns := finds_bad HAN.out hE
                subst hlE
                have hEi : ¬ (E = 0) := hE
                go_wp2_with (first
                  | (go_at_call 11; refine (HSA.out T8 _ (HK8.out T8 (Below.refl _ _)).1.1.1 HNC.out).mono ?_; rintro e w11 ⟨rfl, hb11⟩; have HB11 := Lib.hid hb11; clear hb11)
                  | (go_at_call 8; refine (HAW.out _).mono ?_; rintro e w13 ⟨rfl, hb13⟩; have HBF := Lib.hid (HK8.out _ (HB11.out.trans (hb13.mono HB11.out.size))).1.1.1; clear hb13))
                go_ret
                exact ⟨rfl, HBF.out⟩
            · have hrei : ¬ (re = 0) := hr0
              go_upto_region 16 with fail
              have HK7 : Hid (∀ w, Below T5.heap.size T5 w → ((Keep W (keepV (.slice q ns.length c) nx) w) ∧ w.heap[G9]? = some (.cells (nodeV o) 28))) := Lib.hid (fun w h => (HK5.out w h).1)
              clear a0 a1 HRA
              obtain ⟨TR, hTR⟩ : ∃ T, T = T5 := ⟨_, rfl⟩
              rw [← hTR] at HK7 ⊢
              clear hTR
              have s0 := cell_at (o := 0) (HK7.out TR (Below.refl _ _)).1.2 rfl
              have s1 := cell_at (o := 1) (HK7.out TR (Below.refl _ _)).1.2 rfl
              go_upto_region 17 with (go_at_call 13; refine (HRN.out _ (HK7.out TR (Below.refl _ _)).1.1).mono ?_; rintro e w10 ⟨v10, E, l, rfl, hn10, hans, hb10⟩; have HB10 := Lib.hid hb10; have HN10 := Lib.hid hn10; have HAN := Lib.hid hans; obtain ⟨q10, c10, rfl⟩ := nodesV_slice hn10; clear hb10 hn10 hans)
              clear s0 s1 HRN
              obtain ⟨T8, hT8⟩ : ∃ T, T = w10.alloc (.cells (keepV (.slice q10 l.length c10) nx) 24) := ⟨_, rfl⟩
              have HK8 : Hid (∀ w, Below T8.heap.size T8 w → ((Keep W (keepV (.slice q ns.length c) nx) w) ∧ w.heap[G9]? = some (.cells (nodeV o) 28)) ∧ w.heap[w10.heap.size]? = some (.cells (keepV (.slice q10 l.length c10) nx) 24)) := Lib.hid (fun w h => by rw [hT8] at h; exact ⟨HK7.out w (below_step HB10.out h).1, (below_step HB10.out h).2⟩)
              have HNC : Hid (NodesV T8 (.slice q10 l.length c10) l) := Lib.hid (by rw [hT8]; exact nodesV_step _ HN10.out)
              rw [← hT8]
              clear hT8
              obtain ⟨G19, hG19⟩ : ∃ G, G = w10.heap.size := ⟨_, rfl⟩
              rw [← hG19] at HK8 ⊢
              clear hG19
              have a0 := cell_at (o := 0) (HK8.out T8 (Below.refl _ _)).2 rfl
              have a1 := cell_at (o := 1) (HK8.out T8 (Below.refl _ _)).2 rfl
              have s0 := cell_at (o := 0) (HK8.out T8 (Below.refl _ _)).1.1.2 rfl
              have s1 := cell_at (o := 1) (HK8.out T8 (Below.refl _ _)).1.1.2 rfl
              by_cases hE : E = 0
              · have hfin : ∃ x : NodeD, RiseS l ∧ l.length ≤ 1000000 ∧ findE l tw = 0 ∧ foundN l tw = x ∧ x.id = o.id ∧ x.data = o.data ∧ x.dir = o.dir ∧ (findE l p ≠ 0 ∨ p = tw) := finds_end HFIT.out HOL.out.1 (hE ▸ HAN.out)
                obtain ⟨x, h1, h2, h3, h4, h5, h6, h7, h8⟩ := hfin
                subst hE
                have H567 := Lib.hid (And.intro h5 (And.intro h6 h7))
                have H8 := Lib.hid h8
                clear h5 h6 h7
                have HFX := Lib.hid (fun W' hv => HFN.out l tw W' (.slice q10 l.length c10) nx h1 h2 HPL.out.2 hv)
                have HFY := Lib.hid (fun W' hv => HFN.out l p W' (.slice q10 l.length c10) nx h1 h2 HPL.out.1 hv)
                rw [h3, h4] at HFX
                obtain ⟨fg, hfg⟩ : ∃ fg, fg = findE l p := ⟨_, rfl⟩
                rw [← hfg] at HFY H8
                generalize foundN l p = yg at HFY
                clear hfg h1 h2 h3 h4 h8
                go_upto_region 20 with (go_at_call 9; refine (HFX.out _ HNC.out).mono ?_; rintro e w11 ⟨rfl, hb11⟩; have HB11 := Lib.hid hb11; clear hb11)
                clear a0 a1 s0 s1
                obtain ⟨T9, hT9⟩ : ∃ T, T = w11.alloc (.cells (nodeV x) 28) := ⟨_, rfl⟩
                have HK9 : Hid (∀ w, Below T9.heap.size T9 w → (((Keep W (keepV (.slice q ns.length c) nx) w) ∧ w.heap[G9]? = some (.cells (nodeV o) 28)) ∧ w.heap[G19]? = some (.cells (keepV (.slice q10 l.length c10) nx) 24)) ∧ w.heap[w11.heap.size]? = some (.cells (nodeV x) 28)) := Lib.hid (fun w h => by rw [hT9] at h; exact ⟨HK8.out w (below_step HB11.out h).1, (below_step HB11.out h).2⟩)
                have HNG : Hid (NodesV T9 (.slice q10 l.length c10) l) := Lib.hid (by rw [hT9]; exact nodesV_step _ (HNC.out.below HB11.out))
                rw [← hT9]
                clear hT9
                obtain ⟨G21, hG21⟩ : ∃ G, G = w11.heap.size := ⟨_, rfl⟩
                rw [← hG21] at HK9 ⊢
                clear hG21
                have a0 := cell_at (o := 0) (HK9.out T9 (Below.refl _ _)).1.2 rfl
                have a1 := cell_at (o := 1) (HK9.out T9 (Below.refl _ _)).1.2 rfl
                go_upto_region 21 with (go_at_call 9; refine (HFY.out _ HNG.out).mono ?_; rintro e w12 ⟨rfl, hb12⟩; have HB12 := Lib.hid hb12; clear hb12)
                clear a0 a1
                obtain ⟨TA, hTA⟩ : ∃ T, T = w12.alloc (.cells (nodeV yg) 28) := ⟨_, rfl⟩
                have HKA : Hid (∀ w, Below TA.heap.size TA w → ((((Keep W (keepV (.slice q ns.length c) nx) w) ∧ w.heap[G9]? = some (.cells (nodeV o) 28)) ∧ w.heap[G19]? = some (.cells (keepV (.slice q10 l.length c10) nx) 24)) ∧ w.heap[G21]? = some (.cells (nodeV x) 28)) ∧ w.heap[w12.heap.size]? = some (.cells (nodeV yg) 28)) := Lib.hid (fun w h => by rw [hTA] at h; exact ⟨HK9.out w (below_step HB12.out h).1, (below_step HB12.out h).2⟩)
                rw [← hTA]
                clear hTA
                obtain ⟨G23, hG23⟩ : ∃ G, G = w12.heap.size := ⟨_, rfl⟩
                rw [← hG23] at HKA ⊢
                clear hG23
                have x1 : TA.cell? ⟨G21, 1, none⟩ = some (.bool o.dir) := by rw [← H567.out.2.2]; exact cell_at (o := 1) (HKA.out TA (Below.refl _ _)).1.2 rfl
                have x2 : TA.cell? ⟨G21, 2, none⟩ = some (.string (mkB o.data)) := by rw [← H567.out.2.1]; exact cell_at (o := 2) (HKA.out TA (Below.refl _ _)).1.2 rfl
                have x3 : TA.cell? ⟨G21, 3, none⟩ = some (.int .i64 o.id) := by rw [← H567.out.1]; exact cell_at (o := 3) (HKA.out TA (Below.refl _ _)).1.2 rfl
                have o1 : TA.cell? ⟨G9, 1, none⟩ = some (.bool o.dir) := cell_at (o := 1) (HKA.out TA (Below.refl _ _)).1.1.1.2 rfl
                have o2 : TA.cell? ⟨G9, 2, none⟩ = some (.string (mkB o.data)) := cell_at (o := 2) (HKA.out TA (Below.refl _ _)).1.1.1.2 rfl
                have o3 : TA.cell? ⟨G9, 3, none⟩ = some (.int .i64 o.id) := cell_at (o := 3) (HKA.out TA (Below.refl _ _)).1.1.1.2 rfl
                have hid : (o.id == o.id) = true := beq_self_eq_true _
                have hdt : ((mkB o.data).toList == (mkB o.data).toList) = true := beq_self_eq_true _
                have hdi : (o.dir == o.dir) = true := beq_self_eq_true _
                generalize o.id = oi at x3 o3 hid
                generalize o.data = od at x2 o2 hdt
                generalize o.dir = oo at x1 o1 hdi
                clear H567
                by_cases hg0 : fg = 0
                · have hpt : (p == tw) = true := beq_iff_eq.2 (H8.out.resolve_left (fun h => h hg0))
                  rw [hpt] at hptw
                  subst hg0
                  clear H8 hpt
                  go_wp2_with (go_at_call 8; refine (HAW.out _).mono ?_; rintro e w13 ⟨rfl, hb13⟩; have HBF := Lib.hid (HKA.out _ hb13).1.1.1.1.1; clear hb13)
                  go_ret
                  exact ⟨rfl, HBF.out⟩
                · have hgi : ¬ (fg = 0) := hg0
                  clear H8
                  go_wp2_with (go_at_call 8; refine (HAW.out _).mono ?_; rintro e w13 ⟨rfl, hb13⟩; have HBF := Lib.hid (HKA.out _ hb13).1.1.1.1.1; clear hb13)
                  go_ret
                  exact ⟨rfl, HBF.out⟩
              · have hlE : l = ns := finds_bad HAN.out hE
                subst hlE
                have hEi : ¬ (E = 0) := hE
                go_wp2_with (first
                  | (go_at_call 11; refine (HSA.out T8 _ (HK8.out T8 (Below.refl _ _)).1.1.1 HNC.out).mono ?_; rintro e w11 ⟨rfl, hb11⟩; have HB11 := Lib.hid hb11; clear hb11)
                  | (go_at_call 8; refine (HAW.out _).mono ?_; rintro e w13 ⟨rfl, hb13⟩; have HBF := Lib.hid (HK8.out _ (HB11.out.trans (hb13.mono HB11.out.size))).1.1.1; clear hb13))
                go_ret
                exact ⟨rfl, HBF.out⟩
        · have hti : (600 : Int) < tw.length := by omega
          clear hN hN0 hs hnx hb hf1 hf2 hpl hfit htl
          go_enter Tryz.func3, Tryz.ntmps3
          go_wp2_with (first
            | (go_at_call 6; refine (HFW.out _ ((Below.refl _ _).alloc (Nat.le_refl _) _)).mono ?_; rintro e w1 ⟨rfl, hb1⟩; have HB1 := Lib.hid hb1; have z10 := cell_at (o := 0) (HZ.out _ hb1).2 rfl; have z11 := cell_at (o := 1) (HZ.out _ hb1).2 rfl; clear hb1)
            | (go_at_call 7; refine (HFI.out _ (HZ.out _ HB1.out).1).mono ?_; rintro e w2 ⟨rfl, hb2⟩; have HB2 := Lib.hid (HB1.out.trans (hb2.mono HB1.out.size)); have z20 := cell_at (o := 0) (HZ.out _ HB2.out).2 rfl; have z21 := cell_at (o := 1) (HZ.out _ HB2.out).2 rfl; clear hb2)
            | (go_at_call 8; refine (HAW.out _).mono ?_; rintro e w9 ⟨rfl, hb9⟩; have HB9 := Lib.hid (HB2.out.trans (hb9.mono HB2.out.size)); clear hb9))
          go_ret
          exact ⟨rfl, (HZ.out _ HB9.out).1⟩
      · have hpi : (600 : Int) < p.length := by omega
        clear hN hN0 hs hnx hb hf1 hf2 hpl hfit
        go_enter Tryz.func3, Tryz.ntmps3
        go_wp2_with (first
          | (go_at_call 6; refine (HFW.out _ ((Below.refl _ _).alloc (Nat.le_refl _) _)).mono ?_; rintro e w1 ⟨rfl, hb1⟩; have HB1 := Lib.hid hb1; have z10 := cell_at (o := 0) (HZ.out _ hb1).2 rfl; have z11 := cell_at (o := 1) (HZ.out _ hb1).2 rfl; clear hb1)
          | (go_at_call 7; refine (HFI.out _ (HZ.out _ HB1.out).1).mono ?_; rintro e w2 ⟨rfl, hb2⟩; have HB2 := Lib.hid (HB1.out.trans (hb2.mono HB1.out.size)); have z20 := cell_at (o := 0) (HZ.out _ HB2.out).2 rfl; have z21 := cell_at (o := 1) (HZ.out _ HB2.out).2 rfl; clear hb2)
          | (go_at_call 8; refine (HAW.out _).mono ?_; rintro e w9 ⟨rfl, hb9⟩; have HB9 := Lib.hid (HB2.out.trans (hb9.mono HB2.out.size)); clear hb9))
        go_ret
        exact ⟨rfl, (HZ.out _ HB9.out).1⟩
end Go.Proofs.YtlpgandflkabcaaGreatDoor
