/-
  The law TreeBack, walked.
-/
import Derived.Test.YtlpgandflkabcaaGreatDoorFTtK
import Derived.Test.YtlpgandflkabcaaGreatDoorFTtH
import Derived.Test.YtlpgandflkabcaaGreatDoorFTrV
import Derived.Test.YtlpgandflkabcaaGreatDoorFTtP
namespace Go.Proofs.YtlpgandflkabcaaGreatDoor
open Go Go.RowKit Go.Shelf
set_option linter.unusedVariables false
set_option linter.unusedSimpArgs false

set_option maxRecDepth 100000 in
set_option maxHeartbeats 64000000 in
theorem back_any (ns : List NodeD) (hs : ∀ a ∈ ns, NodeSized a) (v : Value) (nx : Int) (hnx : -9223372036854775808 ≤ nx ∧ nx < 9223372036854775808) (p tw : List UInt8) (hpz : p.length ≤ 140737488351232) (htz : tw.length ≤ 140737488351232) (dir : Bool) (W : World) (hN : NodesV W v ns) :
    Calls Tryz.prog 4 #[.agg (keepV v nx), .string (mkB p), .string (mkB tw), .bool dir] W fun e w' => e = .returned (.bool true) ∧ Below W.heap.size W w' := by
  obtain ⟨q, c, rfl, hN0⟩ := hN
  have hN : NodesV W (.slice q ns.length c) ns := ⟨q, c, rfl, hN0⟩
  have hz1 := mkB_size p
  have hz2 := mkB_size tw
  have HZ : Hid (∀ w1 : World, Below (W.alloc (.cells (keepV (.slice q ns.length c) nx) 24)).heap.size (W.alloc (.cells (keepV (.slice q ns.length c) nx) 24)) w1 → Keep W (keepV (.slice q ns.length c) nx) w1) := Lib.hid (fun w1 h => keep_of h)
  have HFW : Hid (∀ W' : World, Below W.heap.size W W' → Calls Tryz.prog 6 #[.agg (keepV (.slice q ns.length c) nx)] W' fun e w' => e = .returned (.bool (fewT ns)) ∧ Below W'.heap.size W' w') := Lib.hid (fun W' hb => few_any ns _ nx W' (hN.below hb))
  have HAW : Hid (∀ w : World, Calls Tryz.prog 8 #[] w fun e w' => e = .returned (.bool true) ∧ Below w.heap.size w w') := Lib.hid awake_any
  cases hfw : fewT ns
  · rw [hfw] at HFW
    clear hN hN0 hs hfw hnx
    go_enter Tryz.func4, Tryz.ntmps4
    go_wp2_with (first
      | (go_at_call 6; refine (HFW.out _ ((Below.refl _ _).alloc (Nat.le_refl _) _)).mono ?_; rintro e w1 ⟨rfl, hb1⟩; have HB1 := Lib.hid hb1; clear hb1)
      | (go_at_call 8; refine (HAW.out _).mono ?_; rintro e w9 ⟨rfl, hb9⟩; have HB9 := Lib.hid (HB1.out.trans (hb9.mono HB1.out.size)); clear hb9))
    go_ret
    exact ⟨rfl, (HZ.out _ HB9.out).1⟩
  · obtain ⟨hf1, hf2⟩ := (Bool.and_eq_true _ _).mp hfw
    have hf1 := of_decide_eq_true hf1
    obtain ⟨b, hb, hfi⟩ := fit_is ns (fun i h => ⟨by have := of_decide_eq_true (List.all_eq_true.1 hf2 _ (List.getElem_mem h)); omega, (hs _ (List.getElem_mem h)).2⟩) nx hnx
    have HFI : Hid (∀ W' : World, Below W.heap.size W W' → Calls Tryz.prog 7 #[.agg (keepV (.slice q ns.length c) nx)] W' fun e w' => e = .returned (.bool b) ∧ Below W'.heap.size W' w') := Lib.hid (fun W' hb => hfi _ W' (hN.below hb))
    rw [hfw] at HFW
    clear hfi hfw
    cases b
    · clear hN hN0 hs hnx hb hf1 hf2
      go_enter Tryz.func4, Tryz.ntmps4
      go_wp2_with (first
        | (go_at_call 6; refine (HFW.out _ ((Below.refl _ _).alloc (Nat.le_refl _) _)).mono ?_; rintro e w1 ⟨rfl, hb1⟩; have HB1 := Lib.hid hb1; have z10 := cell_at (o := 0) (HZ.out _ hb1).2 rfl; have z11 := cell_at (o := 1) (HZ.out _ hb1).2 rfl; clear hb1)
        | (go_at_call 7; refine (HFI.out _ (HZ.out _ HB1.out).1).mono ?_; rintro e w2 ⟨rfl, hb2⟩; have HB2 := Lib.hid (HB1.out.trans (hb2.mono HB1.out.size)); have z20 := cell_at (o := 0) (HZ.out _ HB2.out).2 rfl; have z21 := cell_at (o := 1) (HZ.out _ HB2.out).2 rfl; clear hb2)
        | (go_at_call 8; refine (HAW.out _).mono ?_; rintro e w9 ⟨rfl, hb9⟩; have HB9 := Lib.hid (HB2.out.trans (hb9.mono HB2.out.size)); clear hb9))
      go_ret
      exact ⟨rfl, (HZ.out _ HB9.out).1⟩
    · have hfit : FitT ns nx := hb.1 rfl
      by_cases hpl : p.length ≤ 600
      · have hpi : ¬ (600 : Int) < p.length := by omega
        by_cases htl : tw.length ≤ 600
        · have hti : ¬ (600 : Int) < tw.length := by omega
          have hr := fit_riseS hfit
          have h40 := hfit.forty
          have h1n := hfit.one
          have hnx0 : 0 ≤ nx := by have := (hfit.all 0 h1n).low; have := (hfit.all 0 h1n).high; omega
          have hps : ∀ k (h : k < ns.length), ns[k].path.length ≤ 1000 := fun k h => by have := path_len (hfit.all k h).path; omega
          obtain ⟨x, hx⟩ : ∃ x, x = foundN ns tw := ⟨_, rfl⟩
          obtain ⟨fe, hfe⟩ : ∃ fe, fe = findE ns tw := ⟨_, rfl⟩
          obtain ⟨me, hme⟩ : ∃ me, me = makeE ns nx p := ⟨_, rfl⟩
          obtain ⟨mL, hmL⟩ : ∃ mL, mL = makeL ns nx p dir := ⟨_, rfl⟩
          obtain ⟨mx, hmx⟩ : ∃ mx, mx = (if me = 0 then nx + 1 else nx) := ⟨_, rfl⟩
          have HFT : Hid (∀ W' : World, Below W.heap.size W W' → Calls Tryz.prog 9 #[.agg (keepV (.slice q ns.length c) nx), .string (mkB tw)] W' fun e w' => e = .returned (.tuple #[.agg (nodeV x), .int .i64 fe]) ∧ Below W'.heap.size W' w') := Lib.hid (fun W' hb => by rw [hx, hfe]; exact findT_any ns hr (by omega) tw (by omega) _ nx W' (hN.below hb))
          have HMK : Hid (∀ W' : World, Below W.heap.size W W' → Calls Tryz.prog 10 #[.agg (keepV (.slice q ns.length c) nx), .string (mkB p), .bool dir] W' fun e w' => ∃ v', e = .returned (.tuple #[.agg (keepV v' mx), .int .i64 me]) ∧ NodesV w' v' mL ∧ Below W'.heap.size W' w') := Lib.hid (fun W' hb => by rw [hmx, hme, hmL]; exact make_any ns hr (by omega) p (by omega) dir _ nx hnx0 W' (hN.below hb))
          have HRN : Hid (∀ W' : World, Below W.heap.size W W' → Calls Tryz.prog 13 #[.agg (keepV (.slice q ns.length c) nx), .string (mkB p), .string (mkB tw)] W' fun e w' => RenPost ns p tw nx W' e w') := Lib.hid (fun W' hb => rename_any ns hr (by omega) hps p tw (by omega) (by omega) _ nx W' (hN.below hb))
          have HRB : Hid (∀ l : List NodeD, fe ≠ 0 → RenAns ns p tw 0 l → l.length = ns.length ∧ ∀ (W' : World) (v' : Value), NodesV W' v' l → Calls Tryz.prog 13 #[.agg (keepV v' nx), .string (mkB tw), .string (mkB p)] W' fun e w' => ∃ v2, e = .returned (.tuple #[.agg (keepV v2 nx), .int .i64 0]) ∧ NodesV w' v2 ns ∧ Below W'.heap.size W' w') := Lib.hid (fun l h1 h2 => by
            obtain ⟨g1, g2, g3, g4⟩ := ren_back hfit (hfe ▸ h1) h2
            refine ⟨g2, fun W' v' hv => (rename_any l g1 (by omega) g3 tw p (by omega) (by omega) v' nx W' hv).mono ?_⟩
            rintro e w' ⟨v2, E, l2, h5, h6, h7, h8⟩
            obtain ⟨rfl, rfl⟩ := g4 E l2 h7
            exact ⟨v2, h5, h6, h8⟩)
          have HSA : Hid (∀ (W' : World) (v' : Value), Below W.heap.size W W' → NodesV W' v' ns → Calls Tryz.prog 11 #[.agg (keepV v' nx), .agg (keepV (.slice q ns.length c) nx)] W' fun e w' => e = .returned (.bool true) ∧ Below W'.heap.size W' w') := Lib.hid (fun W' v' hb hv => by
            have := same_any ns ns hs hs (by omega) v' (.slice q ns.length c) nx nx W' hv (hN.below hb)
            rw [decide_eq_true ⟨rfl, rfl⟩] at this
            exact this)
          have HFA : Hid (me = 0 → mx = nx + 1 ∧ nx < 1048576 ∧ ∀ (W' : World) (v' : Value), NodesV W' v' mL → Calls Tryz.prog 12 #[.agg (keepV v' mx), .string (mkB p), .bool dir] W' fun e w' => ∃ v2, e = .returned (.tuple #[.agg (keepV v2 mx), .int .i64 0]) ∧ NodesV w' v2 ns ∧ Below W'.heap.size W' w') := Lib.hid (fun h => by
            have h' := h
            rw [hme] at h'
            obtain ⟨g1, g2, g3, g4, g5, g6⟩ := make_back hfit (dir := dir) h'
            rw [← hmL] at g2 g3 g4 g5 g6
            refine ⟨by rw [hmx, if_pos h], g1, fun W' v' hv => ?_⟩
            have := remove_any mL g2 g3 g4 p (by omega) dir v' mx W' hv
            rw [g5, g6] at this
            exact this)
          have hl40 : (ns.length : Int) ≤ 40 := by omega
          have hnx0' : 0 ≤ nx := hnx0
          clear hN hN0 hs hnx hb hf1 hf2 hpl hfit htl hr h40 h1n hnx0 hps hme hmL hmx hx hfe
          go_enter Tryz.func4, Tryz.ntmps4
          go_upto_region 4 with (first
            | (go_at_call 6; refine (HFW.out _ ((Below.refl _ _).alloc (Nat.le_refl _) _)).mono ?_; rintro e w1 ⟨rfl, hb1⟩; have HB1 := Lib.hid hb1; have z10 := cell_at (o := 0) (HZ.out _ hb1).2 rfl; have z11 := cell_at (o := 1) (HZ.out _ hb1).2 rfl; clear hb1)
            | (go_at_call 7; refine (HFI.out _ (HZ.out _ HB1.out).1).mono ?_; rintro e w2 ⟨rfl, hb2⟩; have HB2 := Lib.hid (HB1.out.trans (hb2.mono HB1.out.size)); have z20 := cell_at (o := 0) (HZ.out _ HB2.out).2 rfl; have z21 := cell_at (o := 1) (HZ.out _ HB2.out).2 rfl; clear hb2)
            | (go_at_call 9; refine (HFT.out _ (HZ.out _ HB2.out).1).mono ?_; rintro e w3 ⟨rfl, hb3⟩; have HB3 := Lib.hid (HB2.out.trans (hb3.mono HB2.out.size)); clear hb3))
          clear z10 z11 z20 z21 HB1 HB2 HFW HFI HFT
          obtain ⟨T1, hT1⟩ : ∃ T, T = w3.alloc (.cells (nodeV x) 28) := ⟨_, rfl⟩
          have HK1 : Hid (∀ w, Below T1.heap.size T1 w → (Keep W (keepV (.slice q ns.length c) nx) w) ∧ w.heap[w3.heap.size]? = some (.cells (nodeV x) 28)) := Lib.hid (fun w h => by rw [hT1] at h; exact ⟨HZ.out w (below_step HB3.out h).1, (below_step HB3.out h).2⟩)
          rw [← hT1]
          clear hT1
          obtain ⟨G9, hG9⟩ : ∃ G, G = w3.heap.size := ⟨_, rfl⟩
          rw [← hG9] at HK1 ⊢
          clear hG9
          by_cases hf0 : fe = 0
          · subst hf0
            go_upto_region 10 with fail
            have HKM : Hid (∀ w, Below T1.heap.size T1 w → (Keep W (keepV (.slice q ns.length c) nx) w)) := Lib.hid (fun w h => (HK1.out w h).1)
            obtain ⟨TM, hTT⟩ : ∃ T, T = T1 := ⟨_, rfl⟩
            rw [← hTT] at HKM ⊢
            clear hTT
            clear HRN HRB
            have s0 := cell_at (o := 0) (HKM.out TM (Below.refl _ _)).2 rfl
            have s1 := cell_at (o := 1) (HKM.out TM (Below.refl _ _)).2 rfl
            go_upto_region 11 with (go_at_call 10; refine (HMK.out _ (HKM.out TM (Below.refl _ _)).1).mono ?_; rintro e w7 ⟨v7, rfl, hn7, hb7⟩; have HB7 := Lib.hid hb7; have HN7 := Lib.hid hn7; obtain ⟨q7, c7, rfl⟩ := nodesV_slice hn7; clear hb7 hn7)
            clear s0 s1 HMK
            obtain ⟨T5, hT5⟩ : ∃ T, T = w7.alloc (.cells (keepV (.slice q7 mL.length c7) mx) 24) := ⟨_, rfl⟩
            have HK5 : Hid (∀ w, Below T5.heap.size T5 w → (Keep W (keepV (.slice q ns.length c) nx) w) ∧ w.heap[w7.heap.size]? = some (.cells (keepV (.slice q7 mL.length c7) mx) 24)) := Lib.hid (fun w h => by rw [hT5] at h; exact ⟨HKM.out w (below_step HB7.out h).1, (below_step HB7.out h).2⟩)
            have HNR : Hid (NodesV T5 (.slice q7 mL.length c7) mL) := Lib.hid (by rw [hT5]; exact nodesV_step _ HN7.out)
            rw [← hT5]
            clear hT5
            obtain ⟨G15, hG15⟩ : ∃ G, G = w7.heap.size := ⟨_, rfl⟩
            rw [← hG15] at HK5 ⊢
            clear hG15
            by_cases hm0 : me = 0
            · obtain ⟨h1, h2, h3⟩ := HFA.out hm0
              subst hm0
              have HRX := Lib.hid (h3 T5 (.slice q7 mL.length c7) HNR.out)
              clear h3 HFA
              have a0 := cell_at (o := 0) (HK5.out T5 (Below.refl _ _)).2 rfl
              have a1 := cell_at (o := 1) (HK5.out T5 (Below.refl _ _)).2 rfl
              have HMX := Lib.hid h1
              have hxi : nx < 1048576 := h2
              clear h1 h2
              go_upto_region 14 with (go_at_call 12; refine HRX.out.mono ?_; rintro e w8 ⟨v8, rfl, hn8, hb8⟩; have HB8 := Lib.hid hb8; have HN8 := Lib.hid hn8; obtain ⟨q8, c8, rfl⟩ := nodesV_slice hn8; clear hb8 hn8)
              clear a0 a1 HRX
              obtain ⟨T6, hT6⟩ : ∃ T, T = w8.alloc (.cells (keepV (.slice q8 ns.length c8) mx) 24) := ⟨_, rfl⟩
              have HG6 : Hid (Keep W (keepV (.slice q ns.length c) nx) w8 ∧ W.heap.size < w8.heap.size) := Lib.hid (by
                have h := (HK5.out w8 HB8.out).1
                exact ⟨h, heap_lt h.2⟩)
              have H6 : Hid (T6.heap[w8.heap.size]? = some (.cells (keepV (.slice q8 ns.length c8) (nx + 1)) 24)) := Lib.hid (by rw [hT6, ← HMX.out]; exact heap_new _ _ _ rfl)
              have HS6 : Hid (Below w8.heap.size w8 (T6.setCell ⟨w8.heap.size, 1, none⟩ (.int .i64 nx))) := Lib.hid (by rw [hT6]; exact ((Below.refl _ _).alloc (Nat.le_refl _) _).setCell (p := ⟨w8.heap.size, 1, none⟩) (Nat.le_refl _) _)
              rw [← hT6]
              clear hT6
              have k0 := cell_at (o := 0) H6.out rfl
              have k1 : T6.cell? ⟨w8.heap.size, 1, none⟩ = some (.int .i64 (nx + 1)) := cell_at (o := 1) H6.out rfl
              have kz : T6.frozen? ⟨w8.heap.size, 1, none⟩ = false := free_at H6.out
              go_upto_region 15 with fail
              obtain ⟨T7, hT7⟩ : ∃ T, T = T6.setCell ⟨w8.heap.size, 1, none⟩ (.int .i64 nx) := ⟨_, rfl⟩
              have H7 : Hid (T7.heap[w8.heap.size]? = some (.cells (keepV (.slice q8 ns.length c8) nx) 24)) := Lib.hid (by rw [hT7]; exact heap_set (o := 1) H6.out)
              have HB7' : Hid (Below w8.heap.size w8 T7) := Lib.hid (by rw [hT7]; exact HS6.out)
              have HK7 : Hid (∀ w, Below T7.heap.size T7 w → (Keep W (keepV (.slice q ns.length c) nx) w)) := Lib.hid (fun w h => (HK5.out w (HB8.out.trans ((HB7'.out.trans (h.mono HB7'.out.size)).mono HB8.out.size))).1)
              have HN7' : Hid (NodesV T7 (.slice q8 ns.length c8) ns) := Lib.hid (HN8.out.below HB7'.out)
              rw [← hT7]
              clear hT7 k0 k1 kz H6 HS6
              have k0 := cell_at (o := 0) H7.out rfl
              have k1 : T7.cell? ⟨w8.heap.size, 1, none⟩ = some (.int .i64 nx) := cell_at (o := 1) H7.out rfl
              have s0 := cell_at (o := 0) (HK7.out T7 (Below.refl _ _)).2 rfl
              have s1 := cell_at (o := 1) (HK7.out T7 (Below.refl _ _)).2 rfl
              go_wp2_with (first
                | (go_at_call 11; refine (HSA.out T7 _ (HK7.out T7 (Below.refl _ _)).1 HN7'.out).mono ?_; rintro e w11 ⟨rfl, hb11⟩; have HB11 := Lib.hid hb11; clear hb11)
                | (go_at_call 8; refine (HAW.out _).mono ?_; rintro e w13 ⟨rfl, hb13⟩; have HBF := Lib.hid (HK7.out _ (HB11.out.trans (hb13.mono HB11.out.size))).1; clear hb13))
              go_ret
              exact ⟨rfl, HBF.out⟩
            · have hmi : ¬ (me = 0) := hm0
              go_wp2_with (go_at_call 8; refine (HAW.out _).mono ?_; rintro e w13 ⟨rfl, hb13⟩; have HBF := Lib.hid (HK5.out _ hb13).1.1; clear hb13)
              go_ret
              exact ⟨rfl, HBF.out⟩
          · have hfi : ¬ (fe = 0) := hf0
            have s0 := cell_at (o := 0) (HK1.out T1 (Below.refl _ _)).1.2 rfl
            have s1 := cell_at (o := 1) (HK1.out T1 (Below.refl _ _)).1.2 rfl
            go_upto_region 6 with (go_at_call 13; refine (HRN.out _ (HK1.out T1 (Below.refl _ _)).1.1).mono ?_; rintro e w10 ⟨v10, E, l, rfl, hn10, hans, hb10⟩; have HB10 := Lib.hid hb10; have HN10 := Lib.hid hn10; have HAN := Lib.hid hans; obtain ⟨q10, c10, rfl⟩ := nodesV_slice hn10; clear hb10 hn10 hans)
            clear s0 s1
            obtain ⟨T8, hT8⟩ : ∃ T, T = w10.alloc (.cells (keepV (.slice q10 l.length c10) nx) 24) := ⟨_, rfl⟩
            have HK8 : Hid (∀ w, Below T8.heap.size T8 w → (Keep W (keepV (.slice q ns.length c) nx) w) ∧ w.heap[w10.heap.size]? = some (.cells (keepV (.slice q10 l.length c10) nx) 24)) := Lib.hid (fun w h => by rw [hT8] at h; exact ⟨(HK1.out w (below_step HB10.out h).1).1, (below_step HB10.out h).2⟩)
            have HNC : Hid (NodesV T8 (.slice q10 l.length c10) l) := Lib.hid (by rw [hT8]; exact nodesV_step _ HN10.out)
            rw [← hT8]
            clear hT8
            obtain ⟨G11, hG11⟩ : ∃ G, G = w10.heap.size := ⟨_, rfl⟩
            rw [← hG11] at HK8 ⊢
            clear hG11
            by_cases hE : E = 0
            · obtain ⟨hle, hrb⟩ := HRB.out l hf0 (hE ▸ HAN.out)
              subst hE
              have HRX := Lib.hid (hrb T8 _ HNC.out)
              have hlei : ((l.length : Int) == (ns.length : Int)) = true := beq_iff_eq.2 (by omega)
              have hlej : (l.length : Int) = (ns.length : Int) := by omega
              clear hrb hle
              have a0 := cell_at (o := 0) (HK8.out T8 (Below.refl _ _)).2 rfl
              have a1 := cell_at (o := 1) (HK8.out T8 (Below.refl _ _)).2 rfl
              go_upto_region 8 with (go_at_call 13; refine HRX.out.mono ?_; rintro e w11 ⟨v11, rfl, hn11, hb11⟩; have HB11 := Lib.hid hb11; have HN11 := Lib.hid hn11; obtain ⟨q11, c11, rfl⟩ := nodesV_slice hn11; clear hb11 hn11)
              clear a0 a1 HRX
              obtain ⟨T9, hT9⟩ : ∃ T, T = w11.alloc (.cells (keepV (.slice q11 ns.length c11) nx) 24) := ⟨_, rfl⟩
              have HK9 : Hid (∀ w, Below T9.heap.size T9 w → ((Keep W (keepV (.slice q ns.length c) nx) w) ∧ w.heap[G11]? = some (.cells (keepV (.slice q10 l.length c10) nx) 24)) ∧ w.heap[w11.heap.size]? = some (.cells (keepV (.slice q11 ns.length c11) nx) 24)) := Lib.hid (fun w h => by rw [hT9] at h; exact ⟨HK8.out w (below_step HB11.out h).1, (below_step HB11.out h).2⟩)
              have HND : Hid (NodesV T9 (.slice q11 ns.length c11) ns) := Lib.hid (by rw [hT9]; exact nodesV_step _ HN11.out)
              rw [← hT9]
              clear hT9
              obtain ⟨G13, hG13⟩ : ∃ G, G = w11.heap.size := ⟨_, rfl⟩
              rw [← hG13] at HK9 ⊢
              clear hG13
              have b0 := cell_at (o := 0) (HK9.out T9 (Below.refl _ _)).2 rfl
              have b1 := cell_at (o := 1) (HK9.out T9 (Below.refl _ _)).2 rfl
              have s0 := cell_at (o := 0) (HK9.out T9 (Below.refl _ _)).1.1.2 rfl
              have s1 := cell_at (o := 1) (HK9.out T9 (Below.refl _ _)).1.1.2 rfl
              go_upto_region 10 with (go_at_call 11; refine (HSA.out T9 _ (HK9.out T9 (Below.refl _ _)).1.1.1 HND.out).mono ?_; rintro e w12 ⟨rfl, hb12⟩; have HB12 := Lib.hid hb12; have a0 := cell_at (o := 0) (HK9.out _ hb12).1.2 rfl; have u0 := cell_at (o := 0) (HK9.out _ hb12).1.1.2 rfl; clear hb12)
              clear b0 b1 s0 s1 a0 u0 hlei hlej
              have HKM : Hid (∀ w, Below w12.heap.size w12 w → (Keep W (keepV (.slice q ns.length c) nx) w)) := Lib.hid (fun w h => (HK9.out w (HB12.out.trans (h.mono HB12.out.size))).1.1)
              obtain ⟨TM, hTT⟩ : ∃ T, T = w12 := ⟨_, rfl⟩
              rw [← hTT] at HKM ⊢
              clear hTT
              clear HRN HRB
              have s0 := cell_at (o := 0) (HKM.out TM (Below.refl _ _)).2 rfl
              have s1 := cell_at (o := 1) (HKM.out TM (Below.refl _ _)).2 rfl
              go_upto_region 11 with (go_at_call 10; refine (HMK.out _ (HKM.out TM (Below.refl _ _)).1).mono ?_; rintro e w7 ⟨v7, rfl, hn7, hb7⟩; have HB7 := Lib.hid hb7; have HN7 := Lib.hid hn7; obtain ⟨q7, c7, rfl⟩ := nodesV_slice hn7; clear hb7 hn7)
              clear s0 s1 HMK
              obtain ⟨T5, hT5⟩ : ∃ T, T = w7.alloc (.cells (keepV (.slice q7 mL.length c7) mx) 24) := ⟨_, rfl⟩
              have HK5 : Hid (∀ w, Below T5.heap.size T5 w → (Keep W (keepV (.slice q ns.length c) nx) w) ∧ w.heap[w7.heap.size]? = some (.cells (keepV (.slice q7 mL.length c7) mx) 24)) := Lib.hid (fun w h => by rw [hT5] at h; exact ⟨HKM.out w (below_step HB7.out h).1, (below_step HB7.out h).2⟩)
              have HNR : Hid (NodesV T5 (.slice q7 mL.length c7) mL) := Lib.hid (by rw [hT5]; exact nodesV_step _ HN7.out)
              rw [← hT5]
              clear hT5
              obtain ⟨G15, hG15⟩ : ∃ G, G = w7.heap.size := ⟨_, rfl⟩
              rw [← hG15] at HK5 ⊢
              clear hG15
              by_cases hm0 : me = 0
              · obtain ⟨h1, h2, h3⟩ := HFA.out hm0
                subst hm0
                have HRX := Lib.hid (h3 T5 (.slice q7 mL.length c7) HNR.out)
                clear h3 HFA
                have a0 := cell_at (o := 0) (HK5.out T5 (Below.refl _ _)).2 rfl
                have a1 := cell_at (o := 1) (HK5.out T5 (Below.refl _ _)).2 rfl
                have HMX := Lib.hid h1
                have hxi : nx < 1048576 := h2
                clear h1 h2
                go_upto_region 14 with (go_at_call 12; refine HRX.out.mono ?_; rintro e w8 ⟨v8, rfl, hn8, hb8⟩; have HB8 := Lib.hid hb8; have HN8 := Lib.hid hn8; obtain ⟨q8, c8, rfl⟩ := nodesV_slice hn8; clear hb8 hn8)
                clear a0 a1 HRX
                obtain ⟨T6, hT6⟩ : ∃ T, T = w8.alloc (.cells (keepV (.slice q8 ns.length c8) mx) 24) := ⟨_, rfl⟩
                have HG6 : Hid (Keep W (keepV (.slice q ns.length c) nx) w8 ∧ W.heap.size < w8.heap.size) := Lib.hid (by
                  have h := (HK5.out w8 HB8.out).1
                  exact ⟨h, heap_lt h.2⟩)
                have H6 : Hid (T6.heap[w8.heap.size]? = some (.cells (keepV (.slice q8 ns.length c8) (nx + 1)) 24)) := Lib.hid (by rw [hT6, ← HMX.out]; exact heap_new _ _ _ rfl)
                have HS6 : Hid (Below w8.heap.size w8 (T6.setCell ⟨w8.heap.size, 1, none⟩ (.int .i64 nx))) := Lib.hid (by rw [hT6]; exact ((Below.refl _ _).alloc (Nat.le_refl _) _).setCell (p := ⟨w8.heap.size, 1, none⟩) (Nat.le_refl _) _)
                rw [← hT6]
                clear hT6
                have k0 := cell_at (o := 0) H6.out rfl
                have k1 : T6.cell? ⟨w8.heap.size, 1, none⟩ = some (.int .i64 (nx + 1)) := cell_at (o := 1) H6.out rfl
                have kz : T6.frozen? ⟨w8.heap.size, 1, none⟩ = false := free_at H6.out
                go_upto_region 15 with fail
                obtain ⟨T7, hT7⟩ : ∃ T, T = T6.setCell ⟨w8.heap.size, 1, none⟩ (.int .i64 nx) := ⟨_, rfl⟩
                have H7 : Hid (T7.heap[w8.heap.size]? = some (.cells (keepV (.slice q8 ns.length c8) nx) 24)) := Lib.hid (by rw [hT7]; exact heap_set (o := 1) H6.out)
                have HB7' : Hid (Below w8.heap.size w8 T7) := Lib.hid (by rw [hT7]; exact HS6.out)
                have HK7 : Hid (∀ w, Below T7.heap.size T7 w → (Keep W (keepV (.slice q ns.length c) nx) w)) := Lib.hid (fun w h => (HK5.out w (HB8.out.trans ((HB7'.out.trans (h.mono HB7'.out.size)).mono HB8.out.size))).1)
                have HN7' : Hid (NodesV T7 (.slice q8 ns.length c8) ns) := Lib.hid (HN8.out.below HB7'.out)
                rw [← hT7]
                clear hT7 k0 k1 kz H6 HS6
                have k0 := cell_at (o := 0) H7.out rfl
                have k1 : T7.cell? ⟨w8.heap.size, 1, none⟩ = some (.int .i64 nx) := cell_at (o := 1) H7.out rfl
                have s0 := cell_at (o := 0) (HK7.out T7 (Below.refl _ _)).2 rfl
                have s1 := cell_at (o := 1) (HK7.out T7 (Below.refl _ _)).2 rfl
                go_wp2_with (first
                  | (go_at_call 11; refine (HSA.out T7 _ (HK7.out T7 (Below.refl _ _)).1 HN7'.out).mono ?_; rintro e w11 ⟨rfl, hb11⟩; have HB11 := Lib.hid hb11; clear hb11)
                  | (go_at_call 8; refine (HAW.out _).mono ?_; rintro e w13 ⟨rfl, hb13⟩; have HBF := Lib.hid (HK7.out _ (HB11.out.trans (hb13.mono HB11.out.size))).1; clear hb13))
                go_ret
                exact ⟨rfl, HBF.out⟩
              · have hmi : ¬ (me = 0) := hm0
                go_wp2_with (go_at_call 8; refine (HAW.out _).mono ?_; rintro e w13 ⟨rfl, hb13⟩; have HBF := Lib.hid (HK5.out _ hb13).1.1; clear hb13)
                go_ret
                exact ⟨rfl, HBF.out⟩
            · have hEi : ¬ (E = 0) := hE
              go_upto_region 10 with fail
              have HKM : Hid (∀ w, Below T8.heap.size T8 w → (Keep W (keepV (.slice q ns.length c) nx) w)) := Lib.hid (fun w h => (HK8.out w h).1)
              obtain ⟨TM, hTT⟩ : ∃ T, T = T8 := ⟨_, rfl⟩
              rw [← hTT] at HKM ⊢
              clear hTT
              clear HRN HRB
              have s0 := cell_at (o := 0) (HKM.out TM (Below.refl _ _)).2 rfl
              have s1 := cell_at (o := 1) (HKM.out TM (Below.refl _ _)).2 rfl
              go_upto_region 11 with (go_at_call 10; refine (HMK.out _ (HKM.out TM (Below.refl _ _)).1).mono ?_; rintro e w7 ⟨v7, rfl, hn7, hb7⟩; have HB7 := Lib.hid hb7; have HN7 := Lib.hid hn7; obtain ⟨q7, c7, rfl⟩ := nodesV_slice hn7; clear hb7 hn7)
              clear s0 s1 HMK
              obtain ⟨T5, hT5⟩ : ∃ T, T = w7.alloc (.cells (keepV (.slice q7 mL.length c7) mx) 24) := ⟨_, rfl⟩
              have HK5 : Hid (∀ w, Below T5.heap.size T5 w → (Keep W (keepV (.slice q ns.length c) nx) w) ∧ w.heap[w7.heap.size]? = some (.cells (keepV (.slice q7 mL.length c7) mx) 24)) := Lib.hid (fun w h => by rw [hT5] at h; exact ⟨HKM.out w (below_step HB7.out h).1, (below_step HB7.out h).2⟩)
              have HNR : Hid (NodesV T5 (.slice q7 mL.length c7) mL) := Lib.hid (by rw [hT5]; exact nodesV_step _ HN7.out)
              rw [← hT5]
              clear hT5
              obtain ⟨G15, hG15⟩ : ∃ G, G = w7.heap.size := ⟨_, rfl⟩
              rw [← hG15] at HK5 ⊢
              clear hG15
              by_cases hm0 : me = 0
              · obtain ⟨h1, h2, h3⟩ := HFA.out hm0
                subst hm0
                have HRX := Lib.hid (h3 T5 (.slice q7 mL.length c7) HNR.out)
                clear h3 HFA
                have a0 := cell_at (o := 0) (HK5.out T5 (Below.refl _ _)).2 rfl
                have a1 := cell_at (o := 1) (HK5.out T5 (Below.refl _ _)).2 rfl
                have HMX := Lib.hid h1
                have hxi : nx < 1048576 := h2
                clear h1 h2
                go_upto_region 14 with (go_at_call 12; refine HRX.out.mono ?_; rintro e w8 ⟨v8, rfl, hn8, hb8⟩; have HB8 := Lib.hid hb8; have HN8 := Lib.hid hn8; obtain ⟨q8, c8, rfl⟩ := nodesV_slice hn8; clear hb8 hn8)
                clear a0 a1 HRX
                obtain ⟨T6, hT6⟩ : ∃ T, T = w8.alloc (.cells (keepV (.slice q8 ns.length c8) mx) 24) := ⟨_, rfl⟩
                have HG6 : Hid (Keep W (keepV (.slice q ns.length c) nx) w8 ∧ W.heap.size < w8.heap.size) := Lib.hid (by
                  have h := (HK5.out w8 HB8.out).1
                  exact ⟨h, heap_lt h.2⟩)
                have H6 : Hid (T6.heap[w8.heap.size]? = some (.cells (keepV (.slice q8 ns.length c8) (nx + 1)) 24)) := Lib.hid (by rw [hT6, ← HMX.out]; exact heap_new _ _ _ rfl)
                have HS6 : Hid (Below w8.heap.size w8 (T6.setCell ⟨w8.heap.size, 1, none⟩ (.int .i64 nx))) := Lib.hid (by rw [hT6]; exact ((Below.refl _ _).alloc (Nat.le_refl _) _).setCell (p := ⟨w8.heap.size, 1, none⟩) (Nat.le_refl _) _)
                rw [← hT6]
                clear hT6
                have k0 := cell_at (o := 0) H6.out rfl
                have k1 : T6.cell? ⟨w8.heap.size, 1, none⟩ = some (.int .i64 (nx + 1)) := cell_at (o := 1) H6.out rfl
                have kz : T6.frozen? ⟨w8.heap.size, 1, none⟩ = false := free_at H6.out
                go_upto_region 15 with fail
                obtain ⟨T7, hT7⟩ : ∃ T, T = T6.setCell ⟨w8.heap.size, 1, none⟩ (.int .i64 nx) := ⟨_, rfl⟩
                have H7 : Hid (T7.heap[w8.heap.size]? = some (.cells (keepV (.slice q8 ns.length c8) nx) 24)) := Lib.hid (by rw [hT7]; exact heap_set (o := 1) H6.out)
                have HB7' : Hid (Below w8.heap.size w8 T7) := Lib.hid (by rw [hT7]; exact HS6.out)
                have HK7 : Hid (∀ w, Below T7.heap.size T7 w → (Keep W (keepV (.slice q ns.length c) nx) w)) := Lib.hid (fun w h => (HK5.out w (HB8.out.trans ((HB7'.out.trans (h.mono HB7'.out.size)).mono HB8.out.size))).1)
                have HN7' : Hid (NodesV T7 (.slice q8 ns.length c8) ns) := Lib.hid (HN8.out.below HB7'.out)
                rw [← hT7]
                clear hT7 k0 k1 kz H6 HS6
                have k0 := cell_at (o := 0) H7.out rfl
                have k1 : T7.cell? ⟨w8.heap.size, 1, none⟩ = some (.int .i64 nx) := cell_at (o := 1) H7.out rfl
                have s0 := cell_at (o := 0) (HK7.out T7 (Below.refl _ _)).2 rfl
                have s1 := cell_at (o := 1) (HK7.out T7 (Below.refl _ _)).2 rfl
                go_wp2_with (first
                  | (go_at_call 11; refine (HSA.out T7 _ (HK7.out T7 (Below.refl _ _)).1 HN7'.out).mono ?_; rintro e w11 ⟨rfl, hb11⟩; have HB11 := Lib.hid hb11; clear hb11)
                  | (go_at_call 8; refine (HAW.out _).mono ?_; rintro e w13 ⟨rfl, hb13⟩; have HBF := Lib.hid (HK7.out _ (HB11.out.trans (hb13.mono HB11.out.size))).1; clear hb13))
                go_ret
                exact ⟨rfl, HBF.out⟩
              · have hmi : ¬ (me = 0) := hm0
                go_wp2_with (go_at_call 8; refine (HAW.out _).mono ?_; rintro e w13 ⟨rfl, hb13⟩; have HBF := Lib.hid (HK5.out _ hb13).1.1; clear hb13)
                go_ret
                exact ⟨rfl, HBF.out⟩
        · have hti : (600 : Int) < tw.length := by omega
          clear hN hN0 hs hnx hb hf1 hf2 hpl hfit htl
          go_enter Tryz.func4, Tryz.ntmps4
          go_wp2_with (first
            | (go_at_call 6; refine (HFW.out _ ((Below.refl _ _).alloc (Nat.le_refl _) _)).mono ?_; rintro e w1 ⟨rfl, hb1⟩; have HB1 := Lib.hid hb1; have z10 := cell_at (o := 0) (HZ.out _ hb1).2 rfl; have z11 := cell_at (o := 1) (HZ.out _ hb1).2 rfl; clear hb1)
            | (go_at_call 7; refine (HFI.out _ (HZ.out _ HB1.out).1).mono ?_; rintro e w2 ⟨rfl, hb2⟩; have HB2 := Lib.hid (HB1.out.trans (hb2.mono HB1.out.size)); have z20 := cell_at (o := 0) (HZ.out _ HB2.out).2 rfl; have z21 := cell_at (o := 1) (HZ.out _ HB2.out).2 rfl; clear hb2)
            | (go_at_call 8; refine (HAW.out _).mono ?_; rintro e w9 ⟨rfl, hb9⟩; have HB9 := Lib.hid (HB2.out.trans (hb9.mono HB2.out.size)); clear hb9))
          go_ret
          exact ⟨rfl, (HZ.out _ HB9.out).1⟩
      · have hpi : (600 : Int) < p.length := by omega
        clear hN hN0 hs hnx hb hf1 hf2 hpl hfit
        go_enter Tryz.func4, Tryz.ntmps4
        go_wp2_with (first
          | (go_at_call 6; refine (HFW.out _ ((Below.refl _ _).alloc (Nat.le_refl _) _)).mono ?_; rintro e w1 ⟨rfl, hb1⟩; have HB1 := Lib.hid hb1; have z10 := cell_at (o := 0) (HZ.out _ hb1).2 rfl; have z11 := cell_at (o := 1) (HZ.out _ hb1).2 rfl; clear hb1)
          | (go_at_call 7; refine (HFI.out _ (HZ.out _ HB1.out).1).mono ?_; rintro e w2 ⟨rfl, hb2⟩; have HB2 := Lib.hid (HB1.out.trans (hb2.mono HB1.out.size)); have z20 := cell_at (o := 0) (HZ.out _ HB2.out).2 rfl; have z21 := cell_at (o := 1) (HZ.out _ HB2.out).2 rfl; clear hb2)
          | (go_at_call 8; refine (HAW.out _).mono ?_; rintro e w9 ⟨rfl, hb9⟩; have HB9 := Lib.hid (HB2.out.trans (hb9.mono HB2.out.size)); clear hb9))
        go_ret
        exact ⟨rfl, (HZ.out _ HB9.out).1⟩
end Go.Proofs.YtlpgandflkabcaaGreatDoor
