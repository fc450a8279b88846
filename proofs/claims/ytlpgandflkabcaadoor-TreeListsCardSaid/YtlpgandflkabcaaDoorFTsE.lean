/-
  The law TreeLists, walked.
-/
import Derived.Test.YtlpgandflkabcaaDoorFTsC
import Derived.Test.YtlpgandflkabcaaDoorFTsD
import Derived.Test.YtlpgandflkabcaaDoorFTrV
import Derived.Test.YtlpgandflkabcaaDoorFOpT
namespace Go.Proofs.YtlpgandflkabcaaDoor
open Go Go.RowKit Go.Shelf
set_option linter.unusedVariables false
set_option linter.unusedSimpArgs false

/-- Rows of texts. -/
def StrsV (w : World) (v : Value) (l : List (List UInt8)) : Prop := ∃ q c, v = .slice q l.length c ∧ (l ≠ [] → ∃ g, q = some ⟨g, 0, none⟩ ∧ g < w.heap.size ∧ ∀ i (h : i < l.length), w.cell? ⟨g, i, none⟩ = some (.string (mkB l[i])))
theorem StrsV.below {w w' : World} {v : Value} {l : List (List UInt8)} (h : StrsV w v l) (hb : Below w.heap.size w w') : StrsV w' v l := by
  obtain ⟨q, c, rfl, h⟩ := h
  refine ⟨q, c, rfl, fun hn => ?_⟩
  obtain ⟨g, hq, hg, hc⟩ := h hn
  exact ⟨g, hq, Nat.lt_of_lt_of_le hg hb.size, fun i hi => (hb.cell (p := ⟨g, i, none⟩) hg).trans (hc i hi)⟩
theorem strsV_of_own {w : World} {B : Nat} {v : Value} {l : List (List UInt8)} (h : w.ownsRow B 9 1 v l.length (strVs l)) : StrsV w v l := by
  obtain ⟨h1, h2⟩ := h
  rcases h2 with ⟨rfl, h3⟩ | ⟨g, cap, cur, rfl, hg, hc, hn, hcap, hsz, ht⟩
  · exact ⟨none, 0, by rw [h3], fun hn => absurd (List.length_eq_zero_iff.1 h3) hn⟩
  · refine ⟨some ⟨g, 0, none⟩, cap, rfl, fun _ => ⟨g, rfl, heap_lt hc, fun i hi => cell_at hc ?_⟩⟩
    have hj : (strVs l)[i]? = some (.string (mkB l[i])) := by simp [strVs, hi]
    rw [← ht, List.getElem?_take] at hj
    split at hj
    · simpa using hj
    · cases hj
theorem fit_rise {ns : List NodeD} {nx : Int} (h : FitT ns nx) : ∀ {j i : Nat} (hj : j < ns.length) (hij : i < j), (ns[i]'(by omega)).path < ns[j].path
  | 0, i, hj, hij => absurd hij (Nat.not_lt_zero _)
  | j + 1, i, hj, hij => by
    have h1 := (h.all (j + 1) hj).rise j rfl
    rcases Nat.lt_or_eq_of_le (Nat.le_of_lt_succ hij) with h2 | rfl
    · exact ltS_trans (fit_rise h (by omega) h2) h1
    · exact h1
theorem findE_zero {ns : List NodeD} (hr : RiseS ns) {p : List UInt8} (h : findE ns p = 0) : pathB p = true ∧ ∃ k, ∃ hk : k < ns.length, ns[k].path = p := by
  unfold findE at h
  cases hp : pathB p
  · rw [hp] at h; simp at h
  · cases hh : hasS ns p
    · rw [hp, hh] at h
      simp only [if_pos, Bool.false_eq_true, if_false] at h
      rcases missE_ne ns p with e | e <;> rw [e] at h <;> simp at h
    · obtain ⟨hk, hkp⟩ := (hasS_at hr).1 hh
      exact ⟨rfl, _, hk, hkp⟩
theorem contains_next {c : UInt8} {s : List UInt8} {n j : Nat} (h : n ≤ j) (hj : j < s.length) : ((s.take (j + 1)).drop n).contains c = (((s.take j).drop n).contains c || (s[j] == c)) := by
  rw [List.take_succ_eq_append_getElem hj, List.drop_append_of_le_length (by rw [List.length_take]; omega), Bool.eq_iff_iff]
  simp only [List.contains_eq_mem, List.mem_append, List.mem_singleton, decide_eq_true_eq, Bool.or_eq_true, beq_iff_eq]
  exact ⟨Or.imp id Eq.symm, Or.imp id Eq.symm⟩
theorem contains_hit {s : List UInt8} {n j v : Nat} (h : n ≤ j) (hj : j < s.length) (hv : (s[j]'hj).toNat = v) (e : v = 47) : ((s.take (j + 1)).drop n).contains 47 = true := by
  have h1 : s[j] = 47 := UInt8.toNat_inj.1 (hv.trans e)
  rw [contains_next h hj, h1]
  simp
theorem contains_miss {s : List UInt8} {n j v : Nat} (h : n ≤ j) (hj : j < s.length) (hv : (s[j]'hj).toNat = v) (e : v ≠ 47) : ((s.take (j + 1)).drop n).contains 47 = ((s.take j).drop n).contains 47 := by
  have h1 : (s[j] == 47) = false := beq_eq_false_iff_ne.2 (fun e2 => e (by rw [← hv, e2]; rfl))
  rw [contains_next h hj, h1, Bool.or_false]
set_option maxRecDepth 100000 in
set_option maxHeartbeats 8000000 in
theorem lists_any (ns : List NodeD) (hs : ∀ a ∈ ns, NodeSized a) (v : Value) (nx : Int) (hnx : -9223372036854775808 ≤ nx ∧ nx < 9223372036854775808) (p : List UInt8) (hpz : p.length ≤ 140737488351232) (W : World) (hN : NodesV W v ns) :
    Calls Tryd.prog 4 #[.agg (keepV v nx), .string (mkB p)] W fun e w' => e = .returned (.bool true) ∧ Below W.heap.size W w' := by
  obtain ⟨q, c, rfl, hN0⟩ := hN
  have hN : NodesV W (.slice q ns.length c) ns := ⟨q, c, rfl, hN0⟩
  have hz := mkB_size p
  have HZ : Hid (∀ w1 : World, Below (W.alloc (.cells (keepV (.slice q ns.length c) nx) 30)).heap.size (W.alloc (.cells (keepV (.slice q ns.length c) nx) 30)) w1 → w1.heap[W.heap.size]? = some (.cells (keepV (.slice q ns.length c) nx) 30) ∧ Below W.heap.size W w1) := Lib.hid (fun w1 h => ⟨(h.block _ (by simp only [heap_len]; omega)).trans (heap_new _ _ _ rfl), ((Below.refl _ _).alloc (Nat.le_refl _) _).trans (h.mono (by simp only [heap_len]; omega))⟩)
  have HFW : Hid (∀ W' : World, Below W.heap.size W W' → Calls Tryd.prog 8 #[.agg (keepV (.slice q ns.length c) nx)] W' fun e w' => e = .returned (.bool (fewT ns)) ∧ Below W'.heap.size W' w') := Lib.hid (fun W' hb => few_any ns _ nx W' (hN.below hb))
  have HAW : Hid (∀ w : World, Calls Tryd.prog 5 #[] w fun e w' => e = .returned (.bool true) ∧ Below w.heap.size w w') := Lib.hid awake_any
  cases hfw : fewT ns
  · rw [hfw] at HFW
    clear hN hN0 hs hfw hnx
    go_enter Tryd.func4, Tryd.ntmps4
    go_wp2_with (first
      | (go_at_call 8; refine (HFW.out _ ((Below.refl _ _).alloc (Nat.le_refl _) _)).mono ?_; rintro e w1 ⟨rfl, hb1⟩; have HB1 := Lib.hid hb1; clear hb1)
      | (go_at_call 5; refine (HAW.out _).mono ?_; rintro e w9 ⟨rfl, hb9⟩; have HB9 := Lib.hid (HB1.out.trans (hb9.mono HB1.out.size)); clear hb9))
    go_ret
    exact ⟨rfl, (HZ.out _ HB9.out).2⟩
  · obtain ⟨hf1, hf2⟩ := (Bool.and_eq_true _ _).mp hfw
    have hf1 := of_decide_eq_true hf1
    obtain ⟨b, hb, hfi⟩ := fit_is ns (fun i h => ⟨by have := of_decide_eq_true (List.all_eq_true.1 hf2 _ (List.getElem_mem h)); omega, (hs _ (List.getElem_mem h)).2⟩) nx hnx
    have HFI : Hid (∀ W' : World, Below W.heap.size W W' → Calls Tryd.prog 9 #[.agg (keepV (.slice q ns.length c) nx)] W' fun e w' => e = .returned (.bool b) ∧ Below W'.heap.size W' w') := Lib.hid (fun W' hb => hfi _ W' (hN.below hb))
    rw [hfw] at HFW
    clear hfi hfw
    cases b
    · clear hN hN0 hs hnx hb hf1 hf2
      go_enter Tryd.func4, Tryd.ntmps4
      go_wp2_with (first
        | (go_at_call 8; refine (HFW.out _ ((Below.refl _ _).alloc (Nat.le_refl _) _)).mono ?_; rintro e w1 ⟨rfl, hb1⟩; have HB1 := Lib.hid hb1; have z10 := cell_at (o := 0) (HZ.out _ hb1).1 rfl; have z11 := cell_at (o := 1) (HZ.out _ hb1).1 rfl; clear hb1)
        | (go_at_call 9; refine (HFI.out _ (HZ.out _ HB1.out).2).mono ?_; rintro e w2 ⟨rfl, hb2⟩; have HB2 := Lib.hid (HB1.out.trans (hb2.mono HB1.out.size)); clear hb2)
        | (go_at_call 5; refine (HAW.out _).mono ?_; rintro e w9 ⟨rfl, hb9⟩; have HB9 := Lib.hid (HB2.out.trans (hb9.mono HB2.out.size)); clear hb9))
      go_ret
      exact ⟨rfl, (HZ.out _ HB9.out).2⟩
    · by_cases hpl : p.length ≤ 600
      · have hpi : ¬ (600 : Int) < p.length := by omega
        obtain ⟨hfit, -⟩ : FitT ns nx ∧ True := ⟨hb.1 rfl, trivial⟩
        have hr : RiseS ns := List.pairwise_iff_getElem.2 (fun i j hi hj hij => fit_rise hfit hj hij)
        have hpaths : ∀ k (h : k < ns.length), pathB ns[k].path = true := fun k h => (hfit.all k h).path
        have hl40 := hfit.forty
        by_cases he : findE ns p = 0
        · obtain ⟨hp, k, hk, hkp⟩ := findE_zero hr he
          cases hkd : ns[k].dir
          · have HLI : Hid (∀ W' : World, Below W.heap.size W W' → Calls Tryd.prog 10 #[.agg (keepV (.slice q ns.length c) nx), .string (mkB p)] W' fun e w' => e = .returned (.tuple #[.slice none 0 0, .int .i64 20]) ∧ Below W'.heap.size W' w') := Lib.hid (fun W' hb => list_file ns hr (by omega) p hp k hk hkp hkd _ nx W' (hN.below hb))
            clear hN hN0 hs hnx hb hf1 hf2 hfit hr hpaths hl40 he hp hkp hkd hpl hk
            go_enter Tryd.func4, Tryd.ntmps4
            go_wp2_with (first
              | (go_at_call 8; refine (HFW.out _ ((Below.refl _ _).alloc (Nat.le_refl _) _)).mono ?_; rintro e w1 ⟨rfl, hb1⟩; have HB1 := Lib.hid hb1; have z10 := cell_at (o := 0) (HZ.out _ hb1).1 rfl; have z11 := cell_at (o := 1) (HZ.out _ hb1).1 rfl; clear hb1)
              | (go_at_call 9; refine (HFI.out _ (HZ.out _ HB1.out).2).mono ?_; rintro e w2 ⟨rfl, hb2⟩; have HB2 := Lib.hid (HB1.out.trans (hb2.mono HB1.out.size)); have z20 := cell_at (o := 0) (HZ.out _ HB2.out).1 rfl; have z21 := cell_at (o := 1) (HZ.out _ HB2.out).1 rfl; clear hb2)
              | (go_at_call 10; refine (HLI.out _ (HZ.out _ HB2.out).2).mono ?_; rintro e w3 ⟨rfl, hb3⟩; have HB3 := Lib.hid (HB2.out.trans (hb3.mono HB2.out.size)); clear hb3)
              | (go_at_call 5; refine (HAW.out _).mono ?_; rintro e w9 ⟨rfl, hb9⟩; have HB9 := Lib.hid (HB3.out.trans (hb9.mono HB3.out.size)); clear hb9))
            go_ret
            exact ⟨rfl, (HZ.out _ HB9.out).2⟩
          · have HLI : Hid (∀ W' : World, Below W.heap.size W W' → Calls Tryd.prog 10 #[.agg (keepV (.slice q ns.length c) nx), .string (mkB p)] W' fun e w' => ∃ u, e = .returned (.tuple #[u, .int .i64 0]) ∧ w'.ownsRow W'.heap.size 9 1 u (listL ns p).length (strVs (listL ns p)) ∧ Below W'.heap.size W' w') := Lib.hid (fun W' hb => list_dir ns hr (by omega) hpaths p hp k hk hkp hkd _ nx W' (hN.below hb))
            obtain ⟨L, hL⟩ : ∃ L, L = listL ns p := ⟨_, rfl⟩
            have HTH : Hid (∀ i (hi : i < L.length), ∃ k, ∃ hk : k < ns.length, ns[k].path = aheadP p ++ L[i]) := Lib.hid (by rw [hL]; exact fun i hi => list_there hp hpaths hi)
            have HRI : Hid (L.Pairwise (· < ·)) := Lib.hid (by rw [hL]; exact list_rise hr hp hpaths)
            have hLl : (L.length : Int) ≤ 40 := by have := listL_len ns p; rw [← hL] at this; omega
            rw [← hL] at HLI
            have HLE : Hid (∀ i (hi : i < L.length), (L[i].length : Int) ≤ 255) := Lib.hid (fun i hi => by
              obtain ⟨k, hk, hkp⟩ := HTH.out i hi
              have := path_len (hpaths k hk)
              rw [hkp, List.length_append] at this
              omega)
            have HFT : Hid (∀ (i : Nat) (hi : i < L.length) (W' : World), Below W.heap.size W W' → Calls Tryd.prog 11 #[.agg (keepV (.slice q ns.length c) nx), .string (mkB (aheadP p ++ L[i]))] W' fun e w' => ∃ y : NodeD, e = .returned (.tuple #[.agg (nodeV y), .int .i64 0]) ∧ Below W'.heap.size W' w') := Lib.hid (fun i hi W' hb => by
              obtain ⟨k, hk, hkp⟩ := HTH.out i hi
              have hpk := hpaths k hk
              rw [hkp] at hpk
              exact (findT_hit ns hr (by omega) _ hpk (by have := path_len hpk; omega) k hk hkp _ nx W' (hN.below hb)).mono (fun e w' h => ⟨_, h⟩))
            have HCN : Hid (∀ j (hj : j < ns.length), (ns[j].path.length ≤ (aheadP p).length → inDir p ns[j] = false) ∧ (ns[j].path.take (aheadP p).length ≠ aheadP p → inDir p ns[j] = false) ∧ ((aheadP p).length < ns[j].path.length → ns[j].path.take (aheadP p).length = aheadP p → inDir p ns[j] = !(ns[j].path.drop (aheadP p).length).contains 47)) := Lib.hid (fun j hj => ⟨inDir_short hp (hpaths j hj), inDir_other hp (hpaths j hj), inDir_at hp (hpaths j hj)⟩)
            have HPL : Hid (∀ j (hj : j < ns.length), ns[j].path.length ≤ 255) := Lib.hid (fun j hj => path_len (hpaths j hj))
            have HLL : Hid (L = listL ns p) := Lib.hid hL
            have HNV := Lib.hid hN
            have hli : (ns.length : Int) ≤ 40 := by omega
            have hpz2 : (p.length : Int) ≤ 600 := by omega
            have h47 : ((mkB p).toList == [47]) = (p == [47]) := by rw [mkB_toList]
            have HAH : Hid (aheadP p = if p = [47] then [47] else p ++ [47]) := Lib.hid rfl
            clear hN hN0 hs hnx hb hf1 hf2 hfit hr hpaths hl40 he hp hkp hkd hpl hk hL
            generalize aheadP p = P at HTH HFT HCN HAH
            have hPl : (P.length : Int) ≤ 601 := by
              have := HAH.out
              split at this <;> (rw [this]; simp; try omega)
            have hPz := mkB_size P
            cases e47 : (p == [47])
            · have HPE : Hid (P = p ++ [47]) := Lib.hid (by rw [HAH.out, if_neg (beq_eq_false_iff_ne.1 e47)])
              rw [e47] at h47
              clear e47 HAH
              go_enter Tryd.func4, Tryd.ntmps4
              go_upto_region 9 with (first
                | (go_at_call 8; refine (HFW.out _ ((Below.refl _ _).alloc (Nat.le_refl _) _)).mono ?_; rintro e w1 ⟨rfl, hb1⟩; have HB1 := Lib.hid hb1; have z10 := cell_at (o := 0) (HZ.out _ hb1).1 rfl; have z11 := cell_at (o := 1) (HZ.out _ hb1).1 rfl; clear hb1)
                | (go_at_call 9; refine (HFI.out _ (HZ.out _ HB1.out).2).mono ?_; rintro e w2 ⟨rfl, hb2⟩; have HB2 := Lib.hid (HB1.out.trans (hb2.mono HB1.out.size)); have z20 := cell_at (o := 0) (HZ.out _ HB2.out).1 rfl; have z21 := cell_at (o := 1) (HZ.out _ HB2.out).1 rfl; clear hb2)
                | (go_at_call 10; refine (HLI.out _ (HZ.out _ HB2.out).2).mono ?_; rintro e w3 ⟨u, rfl, ho3, hb3⟩; have HB3 := Lib.hid (HB2.out.trans (hb3.mono HB2.out.size)); have HU := Lib.hid (strsV_of_own ho3); clear hb3 ho3))
              have he7 : mkB p ++ ({ data := #[47] } : ByteArray) = mkB P := by rw [HPE.out]; exact mkB_append p [47]
              rw [he7]
              clear he7 h47 HPE
              obtain ⟨uq, uc, rfl, hu⟩ := HU.out
              have HUC : Hid (L ≠ [] → ∃ g, uq = some ⟨g, 0, none⟩ ∧ g < w3.heap.size ∧ ∀ i (h : i < L.length), w3.cell? ⟨g, i, none⟩ = some (.string (mkB L[i]))) := Lib.hid hu
              clear hu HU z10 z11 z20 z21 HFW HFI HLI HB1 HB2
              go_wp2
              go_loopw [51] (fun iv wr => ∃ i : Nat, i ≤ L.length ∧ iv = .int .i64 i ∧ Hid (Below (W.alloc (.cells (keepV (.slice q ns.length c) nx) 30)).heap.size (W.alloc (.cells (keepV (.slice q ns.length c) nx) 30)) wr) ∧ Hid (Below w3.heap.size w3 wr)) (fun iv wr => L.length - (intOf iv).toNat)
              case atStart => exact ⟨0, Nat.zero_le _, rfl, HB3, Lib.hid (Below.refl _ _)⟩
              case round =>
                obtain ⟨i, hi, rfl, HB, HB3W⟩ := hrel
                have z0 := cell_at (o := 0) (HZ.out _ HB.out).1 rfl
                have z1 := cell_at (o := 1) (HZ.out _ HB.out).1 rfl
                have hLl2 : (L.length : Int) ≤ 40 := hLl
                by_cases hlt : i < L.length
                · obtain ⟨g, rfl, hg, hgc⟩ := HUC.out (nonil hlt)
                  have c0 := (HB3W.out.cell (p := ⟨g, i, none⟩) hg).trans (hgc i hlt)
                  have hLi := HLE.out i hlt
                  have hLiz := mkB_size L[i]
                  have HFX := Lib.hid (HFT.out i hlt wr (HZ.out _ HB.out).2)
                  rw [← mkB_append] at HFX
                  rcases Nat.eq_zero_or_pos i with hi0 | hi0
                  · subst hi0
                    clear hg hgc HUC
                    go_wp2_with (go_at_call 11; refine HFX.out.mono ?_; rintro e w4 ⟨y, rfl, hb4⟩; have HB4 := Lib.hid (HB.out.trans (hb4.mono HB.out.size)); have HB43 := Lib.hid (HB3W.out.trans (hb4.mono HB3W.out.size)); clear hb4)
                    go_roundw
                    case rel => exact ⟨0 + 1, by omega, by go_num, Lib.hid (HB4.out.alloc HB4.out.size _), Lib.hid (HB43.out.alloc HB43.out.size _)⟩
                    case measure => simp [intOf]; omega
                  · obtain ⟨j, rfl⟩ : ∃ j, i = j + 1 := ⟨i - 1, by omega⟩
                    have hjl : j < L.length := by omega
                    have HCJ : Hid (∀ w4, Below w3.heap.size w3 w4 → ∀ o, (w4.alloc o).cell? ⟨g, j, none⟩ = some (.string (mkB L[j]))) := Lib.hid (fun w4 h o => ((h.alloc h.size o).cell (p := ⟨g, j, none⟩) hg).trans (hgc j hjl))
                    have hless := less_any L[j] L[j + 1]
                    rw [decide_eq_true (List.pairwise_iff_getElem.1 HRI.out j (j + 1) hjl hlt (by omega))] at hless
                    have b0 : (0 : Int) < (j : Int) + 1 := by omega
                    have b1 : (j : Int) < (L.length : Int) := by omega
                    clear hg hgc HUC hi0
                    go_wp2_with (go_at_call 11; refine HFX.out.mono ?_; rintro e w4 ⟨y, rfl, hb4⟩; have HB4 := Lib.hid (HB.out.trans (hb4.mono HB.out.size)); have HB43 := Lib.hid (HB3W.out.trans (hb4.mono HB3W.out.size)); have cj := HCJ.out _ HB43.out; clear hb4)
                    go_roundw
                    case rel => exact ⟨j + 1 + 1, by omega, by go_num, Lib.hid (HB4.out.alloc HB4.out.size _), Lib.hid (HB43.out.alloc HB43.out.size _)⟩
                    case measure => simp [intOf]; omega
                · obtain rfl : i = L.length := by omega
                  clear HUC HFT HTH HRI HLE
                  go_wp2
                  clear z0 z1
                  go_loopw [12, 83] (fun nv kv wr2 => ∃ k : Nat, k ≤ ns.length ∧ kv = .int .i64 k ∧ nv = .int .i64 ((listL (ns.take k) p).length : Nat) ∧ Hid (Below (W.alloc (.cells (keepV (.slice q ns.length c) nx) 30)).heap.size (W.alloc (.cells (keepV (.slice q ns.length c) nx) 30)) wr2)) (fun nv kv _ => ns.length - (intOf kv).toNat)
                  case atStart => exact ⟨0, Nat.zero_le _, rfl, rfl, HB⟩
                  case round =>
                    obtain ⟨k, hk, rfl, rfl, HB5⟩ := hrel
                    obtain ⟨m, hm⟩ : ∃ m, m = (listL (ns.take k) p).length := ⟨_, rfl⟩
                    have hmk : (m : Int) ≤ 40 := by
                      have h1 := listL_len (ns.take k) p
                      rw [List.length_take] at h1
                      omega
                    by_cases hlt : k < ns.length
                    · have HBW := Lib.hid (HZ.out _ HB5.out).2
                      obtain ⟨q', c', hqe, hN2⟩ := HNV.out
                      cases hqe
                      obtain ⟨b, off, rfl, hrow⟩ := hN2 (nonil hlt)
                      have hrow2 := hrow.below HBW.out
                      have c0 := hrow2.c0 k hlt
                      have c1 := hrow2.c1 k hlt
                      have c2 := hrow2.c2 k hlt
                      have c3 := hrow2.c3 k hlt
                      have hz2 := mkB_size ns[k].path
                      have HTK := Lib.hid (listL_take (p := p) hlt)
                      have HCK := Lib.hid (HCN.out k hlt)
                      have hpk : (ns[k].path.length : Int) ≤ 255 := by have := HPL.out k hlt; omega
                      rw [← hm]
                      have HM := Lib.hid hm
                      clear hrow hrow2 hN2 hm
                      by_cases h1 : ns[k].path.length ≤ P.length
                      · have HIN := Lib.hid (HCK.out.1 h1)
                        have h1i : (ns[k].path.length : Int) ≤ (P.length : Int) := by omega
                        clear h1
                        go_wp2
                        go_roundw
                        case rel => exact ⟨k + 1, by omega, by go_num, by rw [HTK.out, HIN.out, HM.out]; simp, Lib.hid (HB5.out.alloc HB5.out.size _)⟩
                        case measure => simp [intOf]; omega
                      · have h1i : ¬ (ns[k].path.length : Int) ≤ (P.length : Int) := by omega
                        have h1j : (P.length : Int) ≤ (ns[k].path.length : Int) := by omega
                        have hx1 : (mkB ns[k].path).extract 0 P.length = mkB (ns[k].path.take P.length) := mkB_take _ _
                        have hx2 : ((mkB (ns[k].path.take P.length)).toList == (mkB P).toList) = (ns[k].path.take P.length == P) := by rw [mkB_toList, mkB_toList]
                        cases h2 : (ns[k].path.take P.length == P)
                        · have HIN := Lib.hid (HCK.out.2.1 (beq_eq_false_iff_ne.1 h2))
                          rw [h2] at hx2
                          clear h1 h2
                          go_wp2
                          go_roundw
                          case rel => exact ⟨k + 1, by omega, by go_num, by rw [HTK.out, HIN.out, HM.out]; simp, Lib.hid (HB5.out.alloc HB5.out.size _)⟩
                          case measure => simp [intOf]; omega
                        · have HIN := Lib.hid (HCK.out.2.2 (by omega) (beq_iff_eq.1 h2))
                          have HP1 := Lib.hid h1
                          rw [h2] at hx2
                          clear h1 h2
                          go_wp2
                          go_loop [15, 16] (fun dv jv => ∃ j : Nat, P.length ≤ j ∧ j ≤ ns[k].path.length ∧ jv = .int .i64 j ∧ dv = .bool (((ns[k].path.take j).drop P.length).contains 47)) (fun dv jv => ns[k].path.length - (intOf jv).toNat)
                          case atStart => exact ⟨P.length, Nat.le_refl _, by omega, rfl, by rw [List.drop_of_length_le (by simp; omega)]; rfl⟩
                          case round =>
                            obtain ⟨j, hPj, hj, rfl, rfl⟩ := hrel
                            by_cases hjl : j < ns[k].path.length
                            · have hjz : j < (mkB ns[k].path).size := by rw [hz2]; exact hjl
                              obtain ⟨v, hv⟩ : ∃ v : Nat, ((mkB ns[k].path)[j]'hjz).toNat = v := ⟨_, rfl⟩
                              have hji : (j : Int) < ns[k].path.length := by omega
                              cases hd : ((ns[k].path.take j).drop P.length).contains 47
                              · by_cases h47 : v = 47
                                · have HST := Lib.hid (contains_hit hPj hjl hv h47)
                                  subst h47
                                  clear hd
                                  go_wp2
                                  go_round
                                  case rel => exact ⟨j + 1, by omega, by omega, by go_num, by rw [HST.out]⟩
                                  case measure => simp [intOf]; omega
                                · have HST := Lib.hid ((contains_miss hPj hjl hv h47).trans hd)
                                  have c47 : ((v : Int) == 47) = false := beq_eq_false_iff_ne.2 (by omega)
                                  clear hd
                                  go_wp2
                                  go_round
                                  case rel => exact ⟨j + 1, by omega, by omega, by go_num, by rw [HST.out]⟩
                                  case measure => simp [intOf]; omega
                              · have HST : Hid (((ns[k].path.take (j + 1)).drop P.length).contains 47 = true) := Lib.hid (by rw [contains_next hPj hjl, hd]; rfl)
                                clear hd
                                go_wp2
                                go_round
                                case rel => exact ⟨j + 1, by omega, by omega, by go_num, by rw [HST.out]⟩
                                case measure => simp [intOf]; omega
                            · obtain rfl : j = ns[k].path.length := by omega
                              rw [List.take_length]
                              cases hd : (ns[k].path.drop P.length).contains 47
                              · rw [hd] at HIN
                                clear hd
                                go_wp2
                                go_roundw
                                case rel => exact ⟨k + 1, by omega, by go_num, by rw [HTK.out, HIN.out, if_pos (by rfl), List.length_append, ← HM.out]; go_num, Lib.hid (HB5.out.alloc HB5.out.size _)⟩
                                case measure => simp [intOf]; omega
                              · rw [hd] at HIN
                                clear hd
                                go_wp2
                                go_roundw
                                case rel => exact ⟨k + 1, by omega, by go_num, by rw [HTK.out, HIN.out, HM.out]; simp, Lib.hid (HB5.out.alloc HB5.out.size _)⟩
                                case measure => simp [intOf]; omega
                    · obtain rfl : k = ns.length := by omega
                      have hml : m = L.length := by rw [hm, List.take_length, ← HLL.out]
                      rw [← hm, hml]
                      clear hm hmk
                      go_wp2_with (go_at_call 5; refine (HAW.out _).mono ?_; rintro e w9 ⟨rfl, hb9⟩; have HB9 := Lib.hid (HB5.out.trans (hb9.mono HB5.out.size)); clear hb9)
                      go_ret
                      exact ⟨rfl, (HZ.out _ HB9.out).2⟩
            · have HPE : Hid (P = [47]) := Lib.hid (by rw [HAH.out, if_pos (beq_iff_eq.1 e47)])
              rw [e47] at h47
              clear e47 HAH
              go_enter Tryd.func4, Tryd.ntmps4
              go_upto_region 9 with (first
                | (go_at_call 8; refine (HFW.out _ ((Below.refl _ _).alloc (Nat.le_refl _) _)).mono ?_; rintro e w1 ⟨rfl, hb1⟩; have HB1 := Lib.hid hb1; have z10 := cell_at (o := 0) (HZ.out _ hb1).1 rfl; have z11 := cell_at (o := 1) (HZ.out _ hb1).1 rfl; clear hb1)
                | (go_at_call 9; refine (HFI.out _ (HZ.out _ HB1.out).2).mono ?_; rintro e w2 ⟨rfl, hb2⟩; have HB2 := Lib.hid (HB1.out.trans (hb2.mono HB1.out.size)); have z20 := cell_at (o := 0) (HZ.out _ HB2.out).1 rfl; have z21 := cell_at (o := 1) (HZ.out _ HB2.out).1 rfl; clear hb2)
                | (go_at_call 10; refine (HLI.out _ (HZ.out _ HB2.out).2).mono ?_; rintro e w3 ⟨u, rfl, ho3, hb3⟩; have HB3 := Lib.hid (HB2.out.trans (hb3.mono HB2.out.size)); have HU := Lib.hid (strsV_of_own ho3); clear hb3 ho3))
              have he7 : ({ data := #[47] } : ByteArray) = mkB P := by rw [HPE.out]; rfl
              rw [he7]
              clear he7 h47 HPE
              obtain ⟨uq, uc, rfl, hu⟩ := HU.out
              have HUC : Hid (L ≠ [] → ∃ g, uq = some ⟨g, 0, none⟩ ∧ g < w3.heap.size ∧ ∀ i (h : i < L.length), w3.cell? ⟨g, i, none⟩ = some (.string (mkB L[i]))) := Lib.hid hu
              clear hu HU z10 z11 z20 z21 HFW HFI HLI HB1 HB2
              go_wp2
              go_loopw [51] (fun iv wr => ∃ i : Nat, i ≤ L.length ∧ iv = .int .i64 i ∧ Hid (Below (W.alloc (.cells (keepV (.slice q ns.length c) nx) 30)).heap.size (W.alloc (.cells (keepV (.slice q ns.length c) nx) 30)) wr) ∧ Hid (Below w3.heap.size w3 wr)) (fun iv wr => L.length - (intOf iv).toNat)
              case atStart => exact ⟨0, Nat.zero_le _, rfl, HB3, Lib.hid (Below.refl _ _)⟩
              case round =>
                obtain ⟨i, hi, rfl, HB, HB3W⟩ := hrel
                have z0 := cell_at (o := 0) (HZ.out _ HB.out).1 rfl
                have z1 := cell_at (o := 1) (HZ.out _ HB.out).1 rfl
                have hLl2 : (L.length : Int) ≤ 40 := hLl
                by_cases hlt : i < L.length
                · obtain ⟨g, rfl, hg, hgc⟩ := HUC.out (nonil hlt)
                  have c0 := (HB3W.out.cell (p := ⟨g, i, none⟩) hg).trans (hgc i hlt)
                  have hLi := HLE.out i hlt
                  have hLiz := mkB_size L[i]
                  have HFX := Lib.hid (HFT.out i hlt wr (HZ.out _ HB.out).2)
                  rw [← mkB_append] at HFX
                  rcases Nat.eq_zero_or_pos i with hi0 | hi0
                  · subst hi0
                    clear hg hgc HUC
                    go_wp2_with (go_at_call 11; refine HFX.out.mono ?_; rintro e w4 ⟨y, rfl, hb4⟩; have HB4 := Lib.hid (HB.out.trans (hb4.mono HB.out.size)); have HB43 := Lib.hid (HB3W.out.trans (hb4.mono HB3W.out.size)); clear hb4)
                    go_roundw
                    case rel => exact ⟨0 + 1, by omega, by go_num, Lib.hid (HB4.out.alloc HB4.out.size _), Lib.hid (HB43.out.alloc HB43.out.size _)⟩
                    case measure => simp [intOf]; omega
                  · obtain ⟨j, rfl⟩ : ∃ j, i = j + 1 := ⟨i - 1, by omega⟩
                    have hjl : j < L.length := by omega
                    have HCJ : Hid (∀ w4, Below w3.heap.size w3 w4 → ∀ o, (w4.alloc o).cell? ⟨g, j, none⟩ = some (.string (mkB L[j]))) := Lib.hid (fun w4 h o => ((h.alloc h.size o).cell (p := ⟨g, j, none⟩) hg).trans (hgc j hjl))
                    have hless := less_any L[j] L[j + 1]
                    rw [decide_eq_true (List.pairwise_iff_getElem.1 HRI.out j (j + 1) hjl hlt (by omega))] at hless
                    have b0 : (0 : Int) < (j : Int) + 1 := by omega
                    have b1 : (j : Int) < (L.length : Int) := by omega
                    clear hg hgc HUC hi0
                    go_wp2_with (go_at_call 11; refine HFX.out.mono ?_; rintro e w4 ⟨y, rfl, hb4⟩; have HB4 := Lib.hid (HB.out.trans (hb4.mono HB.out.size)); have HB43 := Lib.hid (HB3W.out.trans (hb4.mono HB3W.out.size)); have cj := HCJ.out _ HB43.out; clear hb4)
                    go_roundw
                    case rel => exact ⟨j + 1 + 1, by omega, by go_num, Lib.hid (HB4.out.alloc HB4.out.size _), Lib.hid (HB43.out.alloc HB43.out.size _)⟩
                    case measure => simp [intOf]; omega
                · obtain rfl : i = L.length := by omega
                  clear HUC HFT HTH HRI HLE
                  go_wp2
                  clear z0 z1
                  go_loopw [12, 83] (fun nv kv wr2 => ∃ k : Nat, k ≤ ns.length ∧ kv = .int .i64 k ∧ nv = .int .i64 ((listL (ns.take k) p).length : Nat) ∧ Hid (Below (W.alloc (.cells (keepV (.slice q ns.length c) nx) 30)).heap.size (W.alloc (.cells (keepV (.slice q ns.length c) nx) 30)) wr2)) (fun nv kv _ => ns.length - (intOf kv).toNat)
                  case atStart => exact ⟨0, Nat.zero_le _, rfl, rfl, HB⟩
                  case round =>
                    obtain ⟨k, hk, rfl, rfl, HB5⟩ := hrel
                    obtain ⟨m, hm⟩ : ∃ m, m = (listL (ns.take k) p).length := ⟨_, rfl⟩
                    have hmk : (m : Int) ≤ 40 := by
                      have h1 := listL_len (ns.take k) p
                      rw [List.length_take] at h1
                      omega
                    by_cases hlt : k < ns.length
                    · have HBW := Lib.hid (HZ.out _ HB5.out).2
                      obtain ⟨q', c', hqe, hN2⟩ := HNV.out
                      cases hqe
                      obtain ⟨b, off, rfl, hrow⟩ := hN2 (nonil hlt)
                      have hrow2 := hrow.below HBW.out
                      have c0 := hrow2.c0 k hlt
                      have c1 := hrow2.c1 k hlt
                      have c2 := hrow2.c2 k hlt
                      have c3 := hrow2.c3 k hlt
                      have hz2 := mkB_size ns[k].path
                      have HTK := Lib.hid (listL_take (p := p) hlt)
                      have HCK := Lib.hid (HCN.out k hlt)
                      have hpk : (ns[k].path.length : Int) ≤ 255 := by have := HPL.out k hlt; omega
                      rw [← hm]
                      have HM := Lib.hid hm
                      clear hrow hrow2 hN2 hm
                      by_cases h1 : ns[k].path.length ≤ P.length
                      · have HIN := Lib.hid (HCK.out.1 h1)
                        have h1i : (ns[k].path.length : Int) ≤ (P.length : Int) := by omega
                        clear h1
                        go_wp2
                        go_roundw
                        case rel => exact ⟨k + 1, by omega, by go_num, by rw [HTK.out, HIN.out, HM.out]; simp, Lib.hid (HB5.out.alloc HB5.out.size _)⟩
                        case measure => simp [intOf]; omega
                      · have h1i : ¬ (ns[k].path.length : Int) ≤ (P.length : Int) := by omega
                        have h1j : (P.length : Int) ≤ (ns[k].path.length : Int) := by omega
                        have hx1 : (mkB ns[k].path).extract 0 P.length = mkB (ns[k].path.take P.length) := mkB_take _ _
                        have hx2 : ((mkB (ns[k].path.take P.length)).toList == (mkB P).toList) = (ns[k].path.take P.length == P) := by rw [mkB_toList, mkB_toList]
                        cases h2 : (ns[k].path.take P.length == P)
                        · have HIN := Lib.hid (HCK.out.2.1 (beq_eq_false_iff_ne.1 h2))
                          rw [h2] at hx2
                          clear h1 h2
                          go_wp2
                          go_roundw
                          case rel => exact ⟨k + 1, by omega, by go_num, by rw [HTK.out, HIN.out, HM.out]; simp, Lib.hid (HB5.out.alloc HB5.out.size _)⟩
                          case measure => simp [intOf]; omega
                        · have HIN := Lib.hid (HCK.out.2.2 (by omega) (beq_iff_eq.1 h2))
                          have HP1 := Lib.hid h1
                          rw [h2] at hx2
                          clear h1 h2
                          go_wp2
                          go_loop [15, 16] (fun dv jv => ∃ j : Nat, P.length ≤ j ∧ j ≤ ns[k].path.length ∧ jv = .int .i64 j ∧ dv = .bool (((ns[k].path.take j).drop P.length).contains 47)) (fun dv jv => ns[k].path.length - (intOf jv).toNat)
                          case atStart => exact ⟨P.length, Nat.le_refl _, by omega, rfl, by rw [List.drop_of_length_le (by simp; omega)]; rfl⟩
                          case round =>
                            obtain ⟨j, hPj, hj, rfl, rfl⟩ := hrel
                            by_cases hjl : j < ns[k].path.length
                            · have hjz : j < (mkB ns[k].path).size := by rw [hz2]; exact hjl
                              obtain ⟨v, hv⟩ : ∃ v : Nat, ((mkB ns[k].path)[j]'hjz).toNat = v := ⟨_, rfl⟩
                              have hji : (j : Int) < ns[k].path.length := by omega
                              cases hd : ((ns[k].path.take j).drop P.length).contains 47
                              · by_cases h47 : v = 47
                                · have HST := Lib.hid (contains_hit hPj hjl hv h47)
                                  subst h47
                                  clear hd
                                  go_wp2
                                  go_round
                                  case rel => exact ⟨j + 1, by omega, by omega, by go_num, by rw [HST.out]⟩
                                  case measure => simp [intOf]; omega
                                · have HST := Lib.hid ((contains_miss hPj hjl hv h47).trans hd)
                                  have c47 : ((v : Int) == 47) = false := beq_eq_false_iff_ne.2 (by omega)
                                  clear hd
                                  go_wp2
                                  go_round
                                  case rel => exact ⟨j + 1, by omega, by omega, by go_num, by rw [HST.out]⟩
                                  case measure => simp [intOf]; omega
                              · have HST : Hid (((ns[k].path.take (j + 1)).drop P.length).contains 47 = true) := Lib.hid (by rw [contains_next hPj hjl, hd]; rfl)
                                clear hd
                                go_wp2
                                go_round
                                case rel => exact ⟨j + 1, by omega, by omega, by go_num, by rw [HST.out]⟩
                                case measure => simp [intOf]; omega
                            · obtain rfl : j = ns[k].path.length := by omega
                              rw [List.take_length]
                              cases hd : (ns[k].path.drop P.length).contains 47
                              · rw [hd] at HIN
                                clear hd
                                go_wp2
                                go_roundw
                                case rel => exact ⟨k + 1, by omega, by go_num, by rw [HTK.out, HIN.out, if_pos (by rfl), List.length_append, ← HM.out]; go_num, Lib.hid (HB5.out.alloc HB5.out.size _)⟩
                                case measure => simp [intOf]; omega
                              · rw [hd] at HIN
                                clear hd
                                go_wp2
                                go_roundw
                                case rel => exact ⟨k + 1, by omega, by go_num, by rw [HTK.out, HIN.out, HM.out]; simp, Lib.hid (HB5.out.alloc HB5.out.size _)⟩
                                case measure => simp [intOf]; omega
                    · obtain rfl : k = ns.length := by omega
                      have hml : m = L.length := by rw [hm, List.take_length, ← HLL.out]
                      rw [← hm, hml]
                      clear hm hmk
                      go_wp2_with (go_at_call 5; refine (HAW.out _).mono ?_; rintro e w9 ⟨rfl, hb9⟩; have HB9 := Lib.hid (HB5.out.trans (hb9.mono HB5.out.size)); clear hb9)
                      go_ret
                      exact ⟨rfl, (HZ.out _ HB9.out).2⟩
        · have HLI : Hid (∀ W' : World, Below W.heap.size W W' → Calls Tryd.prog 10 #[.agg (keepV (.slice q ns.length c) nx), .string (mkB p)] W' fun e w' => e = .returned (.tuple #[.slice none 0 0, .int .i64 (findE ns p)]) ∧ Below W'.heap.size W' w') := Lib.hid (fun W' hb => list_fail ns hr (by omega) p (by omega) he _ nx W' (hN.below hb))
          clear hN hN0 hs hnx hb hf1 hf2 hfit hr hpaths hl40 hpl
          generalize findE ns p = fe at he HLI
          have hfe : ¬ (fe = 0) := he
          go_enter Tryd.func4, Tryd.ntmps4
          go_wp2_with (first
            | (go_at_call 8; refine (HFW.out _ ((Below.refl _ _).alloc (Nat.le_refl _) _)).mono ?_; rintro e w1 ⟨rfl, hb1⟩; have HB1 := Lib.hid hb1; have z10 := cell_at (o := 0) (HZ.out _ hb1).1 rfl; have z11 := cell_at (o := 1) (HZ.out _ hb1).1 rfl; clear hb1)
            | (go_at_call 9; refine (HFI.out _ (HZ.out _ HB1.out).2).mono ?_; rintro e w2 ⟨rfl, hb2⟩; have HB2 := Lib.hid (HB1.out.trans (hb2.mono HB1.out.size)); have z20 := cell_at (o := 0) (HZ.out _ HB2.out).1 rfl; have z21 := cell_at (o := 1) (HZ.out _ HB2.out).1 rfl; clear hb2)
            | (go_at_call 10; refine (HLI.out _ (HZ.out _ HB2.out).2).mono ?_; rintro e w3 ⟨rfl, hb3⟩; have HB3 := Lib.hid (HB2.out.trans (hb3.mono HB2.out.size)); clear hb3)
            | (go_at_call 5; refine (HAW.out _).mono ?_; rintro e w9 ⟨rfl, hb9⟩; have HB9 := Lib.hid (HB3.out.trans (hb9.mono HB3.out.size)); clear hb9))
          go_ret
          exact ⟨rfl, (HZ.out _ HB9.out).2⟩
      · have hpi : (600 : Int) < p.length := by omega
        clear hN hN0 hs hnx hb hf1 hf2 hpl
        go_enter Tryd.func4, Tryd.ntmps4
        go_wp2_with (first
          | (go_at_call 8; refine (HFW.out _ ((Below.refl _ _).alloc (Nat.le_refl _) _)).mono ?_; rintro e w1 ⟨rfl, hb1⟩; have HB1 := Lib.hid hb1; have z10 := cell_at (o := 0) (HZ.out _ hb1).1 rfl; have z11 := cell_at (o := 1) (HZ.out _ hb1).1 rfl; clear hb1)
          | (go_at_call 9; refine (HFI.out _ (HZ.out _ HB1.out).2).mono ?_; rintro e w2 ⟨rfl, hb2⟩; have HB2 := Lib.hid (HB1.out.trans (hb2.mono HB1.out.size)); clear hb2)
          | (go_at_call 5; refine (HAW.out _).mono ?_; rintro e w9 ⟨rfl, hb9⟩; have HB9 := Lib.hid (HB2.out.trans (hb9.mono HB2.out.size)); clear hb9))
        go_ret
        exact ⟨rfl, (HZ.out _ HB9.out).2⟩
end Go.Proofs.YtlpgandflkabcaaDoor
