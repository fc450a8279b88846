/-
  Texts in one: FTuG FTuH FTuK FTuL FTuM FTuN.
-/
import Derived.Test.YtlpgandflkabcaaGreatDoorFTvD
import Derived.Test.YtlpgandflkabcaaGreatDoorFTtK
import Derived.Test.YtlpgandflkabcaaGreatDoorFTtG
import Derived.Test.YtlpgandflkabcaaGreatDoorFTtH
import Derived.Test.YtlpgandflkabcaaGreatDoorFTrV
import Derived.Test.YtlpgandflkabcaaGreatDoorFTtP
namespace Go.Proofs.YtlpgandflkabcaaGreatDoor
open Go Go.RowKit Go.Shelf
set_option linter.unusedVariables false
set_option linter.unusedSimpArgs false

def mvd (fr : List UInt8) (x : NodeD) : Bool := (x.path == fr) || belowQ x.path fr
def keepL (fr : List UInt8) (ns : List NodeD) : List NodeD := ns.filter fun x => !mvd fr x
def moveL (fr tw : List UInt8) (ns : List NodeD) : List NodeD := (ns.filter (mvd fr)).map (mvN fr tw)
def insL (l m : List NodeD) : List NodeD := m.foldl withN l
theorem withN_perm (ns : List NodeD) (y : NodeD) : (withN ns y).Perm (y :: ns) := by
  rw [withN]
  refine List.perm_middle.trans ?_
  rw [List.take_append_drop]
theorem ins_facts : ∀ (m l : List NodeD), RiseS l → ((l ++ m).Pairwise fun a b => a.path ≠ b.path) → RiseS (insL l m) ∧ (insL l m).Perm (l ++ m)
  | [], l, hr, _ => ⟨hr, by rw [List.append_nil]; exact List.Perm.refl _⟩
  | y :: m, l, hr, hp => by
    have h1 : hasS l y.path = false := hasS_not.2 fun a ha => (List.pairwise_append.1 hp).2.2 a ha y (List.mem_cons_self ..)
    have h2 : (l ++ y :: m).Perm (withN l y ++ m) := by
      refine List.perm_middle.trans ?_
      exact ((withN_perm l y).symm.append_right m)
    have h3 := (h2.pairwise_iff (fun h => h.symm)).1 hp
    obtain ⟨h4, h5⟩ := ins_facts m (withN l y) (withN_rise hr y h1) h3
    exact ⟨h4, h5.trans h2.symm⟩
theorem ins_take {l m : List NodeD} (hr : RiseS l) (hp : (l ++ m).Pairwise fun a b => a.path ≠ b.path) {i : Nat} (hi : i < m.length) : RiseS (insL l (m.take i)) ∧ hasS (insL l (m.take i)) m[i].path = false ∧ insL l (m.take (i + 1)) = withN (insL l (m.take i)) m[i] ∧ (insL l (m.take i)).length = l.length + i := by
  have hp2 : (l ++ m.take i).Pairwise fun a b => a.path ≠ b.path := List.Pairwise.sublist (List.Sublist.append_left (List.take_sublist i m) l) hp
  obtain ⟨h1, h2⟩ := ins_facts (m.take i) l hr hp2
  refine ⟨h1, hasS_not.2 fun a ha => ?_, ?_, ?_⟩
  · have h3 := h2.mem_iff.1 ha
    rcases List.mem_append.1 h3 with h4 | h4
    · exact (List.pairwise_append.1 hp).2.2 a h4 _ (List.getElem_mem hi)
    · obtain ⟨j, hj, rfl⟩ := List.getElem_of_mem h4
      rw [List.length_take] at hj
      rw [List.getElem_take]
      exact List.pairwise_iff_getElem.1 (List.pairwise_append.1 hp).2.1 j i (by omega) hi (by omega)
  · rw [insL, insL, List.take_succ_eq_append_getElem hi, List.foldl_append]; rfl
  · rw [h2.length_eq, List.length_append, List.length_take]; omega
theorem mv_not {fr tw : List UInt8} {x : NodeD} (h : mvd fr x = false) : mvN fr tw x = x := by
  rw [mvN, if_neg]
  intro e
  rw [mvd, Bool.or_eq_false_iff] at h
  rcases e with e | e
  · rw [e] at h; cases h.1
  · rw [e] at h; cases h.2
theorem keep_move_perm (fr tw : List UInt8) (ns : List NodeD) : (keepL fr ns ++ moveL fr tw ns).Perm (ns.map (mvN fr tw)) := by
  have h1 := (List.filter_append_perm (mvd fr) ns).map (mvN fr tw)
  rw [List.map_append] at h1
  have h2 : (ns.filter fun x => !mvd fr x).map (mvN fr tw) = keepL fr ns := by
    conv => rhs; rw [← List.map_id (keepL fr ns)]
    refine List.map_congr_left (fun x hx => ?_)
    have := (List.mem_filter.1 hx).2
    exact mv_not (by simpa using this)
  rw [h2] at h1
  exact List.perm_append_comm.trans h1
theorem keepL_take {fr : List UInt8} {ns : List NodeD} {k : Nat} (hk : k < ns.length) : keepL fr (ns.take (k + 1)) = keepL fr (ns.take k) ++ if mvd fr ns[k] = true then [] else [ns[k]] := by
  rw [List.take_succ_eq_append_getElem hk, keepL, keepL, List.filter_append]
  congr 1
  cases h : mvd fr ns[k] <;> simp [h]
theorem moveL_take {fr tw : List UInt8} {ns : List NodeD} {k : Nat} (hk : k < ns.length) : moveL fr tw (ns.take (k + 1)) = moveL fr tw (ns.take k) ++ if mvd fr ns[k] = true then [mvN fr tw ns[k]] else [] := by
  rw [List.take_succ_eq_append_getElem hk, moveL, moveL, List.filter_append, List.map_append]
  congr 1
  cases h : mvd fr ns[k] <;> simp [h]
theorem keepL_le (fr : List UInt8) (ns : List NodeD) : (keepL fr ns).length ≤ ns.length := List.length_filter_le _ _
theorem moveL_le (fr tw : List UInt8) (ns : List NodeD) : (moveL fr tw ns).length ≤ ns.length := by rw [moveL, List.length_map]; exact List.length_filter_le _ _
/-- What is moved has the old path ahead. -/
theorem mvd_pre {fr : List UInt8} (hfr : pathB fr = true) (h47 : fr ≠ [47]) {x : NodeD} (h : mvd fr x = true) : fr.length ≤ x.path.length ∧ Lib.trimPrefix x.path fr = x.path.drop fr.length := by
  have hpre : fr <+: x.path := by
    rw [mvd, Bool.or_eq_true] at h
    rcases h with h | h
    · rw [beq_iff_eq.1 h]; exact List.prefix_refl _
    · obtain ⟨F, hF, rfl, _⟩ := path_parts hfr
      have hF0 : F ≠ [] := fun e => h47 (by rw [e]; rfl)
      rw [belowQ, Bool.and_eq_true, List.isPrefixOf_iff_prefix, parts_rootL hF] at h
      rw [rootL_of hF0]
      exact List.IsPrefix.trans ⟨[47], rfl⟩ h.2
  refine ⟨hpre.length_le, ?_⟩
  rw [Lib.trimPrefix, Lib.hasPrefix, if_pos (List.isPrefixOf_iff_prefix.2 hpre)]
def LongM (fr tw : List UInt8) (ns : List NodeD) : Prop := ∃ j, ∃ hj : j < ns.length, mvd fr ns[j] = true ∧ 255 < (mvN fr tw ns[j]).path.length
set_option maxRecDepth 100000 in
set_option maxHeartbeats 8000000 in
theorem rmoved_any (ns : List NodeD) (hr : RiseS ns) (hlen : ns.length ≤ 400) (hpb : ∀ x ∈ ns, pathB x.path = true) (fr tw : List UInt8) (hfr : pathB fr = true) (h47 : fr ≠ [47]) (hto : tw.length ≤ 255) (hpw : (keepL fr ns ++ moveL fr tw ns).Pairwise fun a b => a.path ≠ b.path) (v : Value) (nx : Int) (W : World) (hN : NodesV W v ns) :
    Calls Tryz.prog 42 #[.agg (keepV v nx), .string (mkB fr), .string (mkB tw)] W fun e w' =>
      (e = .returned (.tuple #[.agg (keepV v nx), .bool false]) ∧ LongM fr tw ns ∧ Below W.heap.size W w') ∨ (¬ LongM fr tw ns ∧ ∃ v', e = .returned (.tuple #[.agg (keepV v' nx), .bool true]) ∧ w'.ownsRow W.heap.size 28 4 v' (insL (keepL fr ns) (moveL fr tw ns)).length (nodeVs (insL (keepL fr ns) (moveL fr tw ns))) ∧ Below W.heap.size W w') := by
  obtain ⟨q, c, rfl, hN0⟩ := hN
  have HN := Lib.hid hN0
  have hli : (ns.length : Int) ≤ 400 := by omega
  have HLEN := Lib.hid hlen
  have hfl := path_len hfr
  have hfi : (fr.length : Int) ≤ 255 := by omega
  have hti : (tw.length : Int) ≤ 255 := by omega
  have hzf := mkB_size fr
  have hzt := mkB_size tw
  obtain ⟨W0, hW0⟩ : ∃ W0, W0 = (W.alloc (.cells (keepV (.slice q ns.length c) nx) 24)).alloc (.cells (keepV (.slice none 0 0) 0) 24) := ⟨_, rfl⟩
  have HF : Hid (∀ w', Below W0.heap.size W0 w' → Below W.heap.size W w' ∧ w'.heap[W.heap.size]? = some (.cells (keepV (.slice q ns.length c) nx) 24) ∧ w'.heap[W.heap.size + 1]? = some (.cells (keepV (.slice none 0 0) 0) 24)) := Lib.hid (fun w' h => by
    rw [hW0] at h
    exact kept2 (h.mono (by simp only [heap_len]; omega)))
  have HS0 : Hid (W0.heap.size = W.heap.size + 2) := Lib.hid (by rw [hW0]; simp only [heap_len])
  have HBQ : Hid (∀ (k : Nat) (hk : k < ns.length) (w : World), Calls Tryz.prog 40 #[.string (mkB ns[k].path), .string (mkB fr)] w fun e w' => e = .returned (.bool (belowQ ns[k].path fr)) ∧ w' = w) := Lib.hid (fun k hk w => rbelow_any _ _ (hpb _ (List.getElem_mem hk)) hfr w)
  have HPS : Hid (∀ k (hk : k < ns.length), ns[k].path.length ≤ 255) := Lib.hid (fun k hk => path_len (hpb _ (List.getElem_mem hk)))
  have HPRE : Hid (∀ k (hk : k < ns.length), mvd fr ns[k] = true → fr.length ≤ ns[k].path.length ∧ Lib.trimPrefix ns[k].path fr = ns[k].path.drop fr.length) := Lib.hid (fun k hk h => mvd_pre hfr h47 h)
  have HRK : Hid (RiseS (keepL fr ns)) := Lib.hid (List.Pairwise.filter _ hr)
  have HPW := Lib.hid hpw
  obtain ⟨m, hm⟩ : ∃ m, m = moveL fr tw ns := ⟨_, rfl⟩
  obtain ⟨kl, hkl⟩ : ∃ kl, kl = keepL fr ns := ⟨_, rfl⟩
  rw [← hm, ← hkl] at HPW ⊢
  rw [← hkl] at HRK
  have HML : Hid (m.length ≤ 400 ∧ kl.length ≤ 400) := Lib.hid (by have := moveL_le fr tw ns; have := keepL_le fr ns; rw [hm, hkl]; omega)
  have HMKL := Lib.hid (And.intro hm hkl)
  have hmi : (m.length : Int) ≤ 400 := by have := HML.out.1; omega
  clear hN0 hlen hr hpb hfr h47 hto hpw hfl hm hkl
  go_enter Tryz.func42, Tryz.ntmps42
  go_wp2
  rw [← hW0]
  clear hW0
  go_loopw [8, 9, 10] (fun u1 u2 iv wr => ∃ j : Nat, j ≤ ns.length ∧ iv = .int .i64 j ∧ Hid (Below W0.heap.size W0 wr) ∧ Hid (TwoRows W0.heap.size wr u1 u2 (keepL fr (ns.take j)) (moveL fr tw (ns.take j))) ∧ Hid (∀ i (hi : i < ns.length), i < j → mvd fr ns[i] = true → (mvN fr tw ns[i]).path.length ≤ 255)) (fun u1 u2 iv wr => ns.length - (intOf iv).toNat)
  case atStart => exact ⟨0, Nat.zero_le _, rfl, Lib.hid (Below.refl _ _), Lib.hid ⟨World.ownsRow_nil _ _ _ _, World.ownsRow_nil _ _ _ _, fun g h => by cases h⟩, Lib.hid (fun i _ h => absurd h (Nat.not_lt_zero _))⟩
  case round =>
    obtain ⟨j, hj, rfl, HB, HO, HK⟩ := hrel
    have s0 := cell_at (o := 0) (HF.out _ HB.out).2.1 rfl
    have s1 := cell_at (o := 1) (HF.out _ HB.out).2.1 rfl
    by_cases hlt : j < ns.length
    · obtain ⟨b, off, rfl, hrow⟩ := HN.out (nonil hlt)
      have hrow2 := hrow.below (HF.out _ HB.out).1
      have c0 := hrow2.c0 j hlt
      have c1 := hrow2.c1 j hlt
      have c2 := hrow2.c2 j hlt
      have c3 := hrow2.c3 j hlt
      have hji : (j : Int) < ns.length := by omega
      have h1 : ((mkB ns[j].path).toList == (mkB fr).toList) = (ns[j].path == fr) := by rw [mkB_toList, mkB_toList]
      have hzp := mkB_size ns[j].path
      have hpi : (ns[j].path.length : Int) ≤ 255 := by have := HPS.out j hlt; omega
      have HBK := Lib.hid (HBQ.out j hlt)
      have HKT := Lib.hid (keepL_take (fr := fr) hlt)
      have HMT := Lib.hid (moveL_take (fr := fr) (tw := tw) hlt)
      have HL1 : Hid ((keepL fr (ns.take j)).length ≤ 1000) := Lib.hid (by have := keepL_le fr (ns.take j); rw [List.length_take] at this; have := HLEN.out; omega)
      have HL2 : Hid ((moveL fr tw (ns.take j)).length ≤ 1000) := Lib.hid (by have := moveL_le fr tw (ns.take j); rw [List.length_take] at this; have := HLEN.out; omega)
      have HMD : Hid (mvd fr ns[j] = ((ns[j].path == fr) || belowQ ns[j].path fr)) := Lib.hid rfl
      clear hrow hrow2
      cases e1 : (ns[j].path == fr)
      · cases e2 : belowQ ns[j].path fr
        · have HM : Hid (mvd fr ns[j] = false) := Lib.hid (by rw [HMD.out, e1, e2]; rfl)
          have HBV := Lib.hid e2
          rw [e1] at h1
          clear e1 e2
          have HK1 : Hid (keepL fr (ns.take (j + 1)) = keepL fr (ns.take j) ++ [ns[j]]) := Lib.hid (by rw [HKT.out, HM.out]; rfl)
          have HM1 : Hid (moveL fr tw (ns.take (j + 1)) = moveL fr tw (ns.take j)) := Lib.hid (by rw [HMT.out, HM.out, if_neg (by decide), List.append_nil])
          have HO2 := Lib.hid ((HO.out.alloc (.cells (nodeV ns[j]) 28)).alloc (.cells (nodeV ns[j]) 28))
          go_wp2_with (first
            | (go_at_call 40; refine (HBK.out _).mono ?_; rintro e w5 ⟨rfl, rfl⟩; rw [HBV.out])
            | (at_builtin; refine append_node2 rfl _ _ rfl W0.heap.size _ (keepL fr (ns.take j)) rfl HO2.out.one ns[j] (wr.heap.size + 1) rfl (heap_new _ _ _ (by simp only [heap_len])) HL1.out (by have := HB.out.size; simp only [heap_len]; omega) ?_; intro v' w6 hown' hgrow hfresh; have HO6 := Lib.hid (HO2.out.left hown' hgrow hfresh); have HB6 : Hid (Below W0.heap.size W0 w6) := Lib.hid (below_appended ((HB.out.alloc HB.out.size _).alloc (by have := HB.out.size; simp only [heap_len]; omega) _) (Nat.le_refl _) HO2.out.one hgrow); clear hown' hgrow hfresh))
          go_roundw
          case rel => exact ⟨j + 1, by omega, by go_num, HB6, Lib.hid (by rw [HK1.out, HM1.out]; exact HO6.out), Lib.hid (fun i hi hij hm => by
            rcases Nat.lt_or_eq_of_le (Nat.le_of_lt_succ hij) with h | rfl
            · exact HK.out i hi h hm
            · rw [HM.out] at hm; cases hm)⟩
          case measure => simp [intOf]; omega
        · have HM : Hid (mvd fr ns[j] = true) := Lib.hid (by rw [HMD.out, e1, e2]; rfl)
          have HBV := Lib.hid e2
          rw [e1] at h1
          clear e1 e2
          obtain ⟨hp1, hp2⟩ := HPRE.out j hlt HM.out
          obtain ⟨dr, hdr⟩ : ∃ dr, dr = ns[j].path.drop fr.length := ⟨_, rfl⟩
          have hx1 : (mkB ns[j].path).extract fr.length ns[j].path.length = mkB dr := by have := mkB_drop ns[j].path fr.length; rw [hzp] at this; rw [this, hdr]
          have HMV : Hid (mvN fr tw ns[j] = { ns[j] with path := tw ++ dr }) := Lib.hid (by rw [mvN, if_pos (by have := HM.out; rw [mvd, Bool.or_eq_true] at this; exact this), hp2, hdr])
          have hdl : (dr.length : Int) ≤ 255 := by rw [hdr, List.length_drop]; omega
          have hzd := mkB_size dr
          have hp1i : (fr.length : Int) ≤ ns[j].path.length := by omega
          clear hp2 hdr
          have HK1 : Hid (keepL fr (ns.take (j + 1)) = keepL fr (ns.take j)) := Lib.hid (by rw [HKT.out, HM.out, if_pos rfl, List.append_nil])
          have HM1 : Hid (moveL fr tw (ns.take (j + 1)) = moveL fr tw (ns.take j) ++ [{ ns[j] with path := tw ++ dr }]) := Lib.hid (by rw [HMT.out, HM.out, if_pos rfl, HMV.out])
          have HO2 := Lib.hid ((HO.out.alloc (.cells (nodeV { ns[j] with path := tw ++ dr }) 28)).alloc (.cells (nodeV { ns[j] with path := tw ++ dr }) 28))
          have hzn : (mkB (tw ++ dr)).size = tw.length + dr.length := by rw [mkB_size, List.length_append]
          have hja : mkB tw ++ mkB dr = mkB (tw ++ dr) := mkB_append _ _
          by_cases h9 : tw.length + dr.length ≤ 255
          · have h9n : ¬ (255 : Int) < (tw.length : Int) + (dr.length : Int) := by omega
            have HSH : Hid ((mvN fr tw ns[j]).path.length ≤ 255) := Lib.hid (by rw [HMV.out, List.length_append]; exact h9)
            go_wp2_with (first
              | (go_at_call 40; refine (HBK.out _).mono ?_; rintro e w5 ⟨rfl, rfl⟩; rw [HBV.out])
              | (at_builtin; refine append_node2 rfl _ _ rfl W0.heap.size _ (moveL fr tw (ns.take j)) rfl HO2.out.two { ns[j] with path := tw ++ dr } (wr.heap.size + 1) rfl (heap_new _ _ _ (by simp only [heap_len])) HL2.out (by have := HB.out.size; simp only [heap_len]; omega) ?_; intro v' w6 hown' hgrow hfresh; have HO6 := Lib.hid (HO2.out.right hown' hgrow hfresh); have HB6 : Hid (Below W0.heap.size W0 w6) := Lib.hid (below_appended ((HB.out.alloc HB.out.size _).alloc (by have := HB.out.size; simp only [heap_len]; omega) _) (Nat.le_refl _) HO2.out.two hgrow); clear hown' hgrow hfresh))
            go_roundw
            case rel => exact ⟨j + 1, by omega, by go_num, HB6, Lib.hid (by rw [HK1.out, HM1.out]; exact HO6.out), Lib.hid (fun i hi hij hm => by
              rcases Nat.lt_or_eq_of_le (Nat.le_of_lt_succ hij) with h | rfl
              · exact HK.out i hi h hm
              · exact HSH.out)⟩
            case measure => simp [intOf]; omega
          · have h9n : (255 : Int) < (tw.length : Int) + (dr.length : Int) := by omega
            have HSH : Hid (LongM fr tw ns) := Lib.hid ⟨j, hlt, HM.out, by rw [HMV.out, List.length_append]; omega⟩
            have HA := Lib.hid (fun o => HF.out _ (HB.out.alloc HB.out.size o))
            have z0 := fun o => cell_at (o := 0) (HA.out o).2.1 rfl
            have z1 := fun o => cell_at (o := 1) (HA.out o).2.1 rfl
            have HZ := Lib.hid (HA.out (.cells (nodeV { ns[j] with path := tw ++ dr }) 28)).2.2
            go_wp2_with (first
              | (go_at_call 40; refine (HBK.out _).mono ?_; rintro e w5 ⟨rfl, rfl⟩; rw [HBV.out])
              | (refine wpl_store 24 ?_; intro ee he; refine wpList_store_row he _ _ _ ee (W.heap.size + 1) (keepV (.slice (some ⟨b, off, none⟩) ns.length c) nx) rfl rfl 24 (keepV (.slice none 0 0) 0) HZ.out (tree_size _ _) rfl (tree_one _) ?_))
            refine bodyPost_ret (res_cell_tmp rfl rfl (row_same HZ.out) (by kernel_rfl) (tree_size _ _)) rfl ?_
            exact .inl ⟨rfl, HSH.out, below_row (HA.out _).1 _ _ (by omega)⟩
      · have HM : Hid (mvd fr ns[j] = true) := Lib.hid (by rw [HMD.out, e1]; rfl)
        rw [e1] at h1
        clear e1
        obtain ⟨hp1, hp2⟩ := HPRE.out j hlt HM.out
        obtain ⟨dr, hdr⟩ : ∃ dr, dr = ns[j].path.drop fr.length := ⟨_, rfl⟩
        have hx1 : (mkB ns[j].path).extract fr.length ns[j].path.length = mkB dr := by have := mkB_drop ns[j].path fr.length; rw [hzp] at this; rw [this, hdr]
        have HMV : Hid (mvN fr tw ns[j] = { ns[j] with path := tw ++ dr }) := Lib.hid (by rw [mvN, if_pos (by have := HM.out; rw [mvd, Bool.or_eq_true] at this; exact this), hp2, hdr])
        have hdl : (dr.length : Int) ≤ 255 := by rw [hdr, List.length_drop]; omega
        have hzd := mkB_size dr
        have hp1i : (fr.length : Int) ≤ ns[j].path.length := by omega
        clear hp2 hdr
        have HK1 : Hid (keepL fr (ns.take (j + 1)) = keepL fr (ns.take j)) := Lib.hid (by rw [HKT.out, HM.out, if_pos rfl, List.append_nil])
        have HM1 : Hid (moveL fr tw (ns.take (j + 1)) = moveL fr tw (ns.take j) ++ [{ ns[j] with path := tw ++ dr }]) := Lib.hid (by rw [HMT.out, HM.out, if_pos rfl, HMV.out])
        have HO2 := Lib.hid ((HO.out.alloc (.cells (nodeV { ns[j] with path := tw ++ dr }) 28)).alloc (.cells (nodeV { ns[j] with path := tw ++ dr }) 28))
        have hzn : (mkB (tw ++ dr)).size = tw.length + dr.length := by rw [mkB_size, List.length_append]
        have hja : mkB tw ++ mkB dr = mkB (tw ++ dr) := mkB_append _ _
        by_cases h9 : tw.length + dr.length ≤ 255
        · have h9n : ¬ (255 : Int) < (tw.length : Int) + (dr.length : Int) := by omega
          have HSH : Hid ((mvN fr tw ns[j]).path.length ≤ 255) := Lib.hid (by rw [HMV.out, List.length_append]; exact h9)
          go_wp2_with (first
            | (at_builtin; refine append_node2 rfl _ _ rfl W0.heap.size _ (moveL fr tw (ns.take j)) rfl HO2.out.two { ns[j] with path := tw ++ dr } (wr.heap.size + 1) rfl (heap_new _ _ _ (by simp only [heap_len])) HL2.out (by have := HB.out.size; simp only [heap_len]; omega) ?_; intro v' w6 hown' hgrow hfresh; have HO6 := Lib.hid (HO2.out.right hown' hgrow hfresh); have HB6 : Hid (Below W0.heap.size W0 w6) := Lib.hid (below_appended ((HB.out.alloc HB.out.size _).alloc (by have := HB.out.size; simp only [heap_len]; omega) _) (Nat.le_refl _) HO2.out.two hgrow); clear hown' hgrow hfresh))
          go_roundw
          case rel => exact ⟨j + 1, by omega, by go_num, HB6, Lib.hid (by rw [HK1.out, HM1.out]; exact HO6.out), Lib.hid (fun i hi hij hm => by
            rcases Nat.lt_or_eq_of_le (Nat.le_of_lt_succ hij) with h | rfl
            · exact HK.out i hi h hm
            · exact HSH.out)⟩
          case measure => simp [intOf]; omega
        · have h9n : (255 : Int) < (tw.length : Int) + (dr.length : Int) := by omega
          have HSH : Hid (LongM fr tw ns) := Lib.hid ⟨j, hlt, HM.out, by rw [HMV.out, List.length_append]; omega⟩
          have HA := Lib.hid (fun o => HF.out _ (HB.out.alloc HB.out.size o))
          have z0 := fun o => cell_at (o := 0) (HA.out o).2.1 rfl
          have z1 := fun o => cell_at (o := 1) (HA.out o).2.1 rfl
          have HZ := Lib.hid (HA.out (.cells (nodeV { ns[j] with path := tw ++ dr }) 28)).2.2
          go_wp2_with (first
            | (refine wpl_store 24 ?_; intro ee he; refine wpList_store_row he _ _ _ ee (W.heap.size + 1) (keepV (.slice (some ⟨b, off, none⟩) ns.length c) nx) rfl rfl 24 (keepV (.slice none 0 0) 0) HZ.out (tree_size _ _) rfl (tree_one _) ?_))
          refine bodyPost_ret (res_cell_tmp rfl rfl (row_same HZ.out) (by kernel_rfl) (tree_size _ _)) rfl ?_
          exact .inl ⟨rfl, HSH.out, below_row (HA.out _).1 _ _ (by omega)⟩
    · obtain rfl : j = ns.length := by omega
      have HNL : Hid (¬ LongM fr tw ns) := Lib.hid (by
        rintro ⟨i, hi, hm, hl⟩
        have := HK.out i hi hi hm
        omega)
      have HO9 : Hid (TwoRows W0.heap.size wr u8 u9 kl m) := Lib.hid (by have := HO.out; rw [List.take_length, ← HMKL.out.1, ← HMKL.out.2] at this; exact this)
      clear HO HK
      obtain ⟨q9, c9, hu9⟩ := nodesV_slice (nodesV_of_own HO9.out.two)
      subst hu9
      obtain ⟨W9, hW9⟩ : ∃ W9, W9 = wr := ⟨_, rfl⟩
      rw [← hW9] at HB HO9 s0 s1 ⊢
      clear hW9
      go_wp2
      clear s0 s1
      go_loopw [8, 12] (fun u1 iv wr2 => ∃ i : Nat, i ≤ m.length ∧ iv = .int .i64 i ∧ Hid (Below W9.heap.size W9 wr2) ∧ Hid (wr2.ownsRow W0.heap.size 28 4 u1 (insL kl (m.take i)).length (nodeVs (insL kl (m.take i))))) (fun u1 iv _ => m.length - (intOf iv).toNat)
      case atStart => exact ⟨0, Nat.zero_le _, rfl, Lib.hid (Below.refl _ _), Lib.hid HO9.out.one⟩
      case round =>
        obtain ⟨i, hi, rfl, HB2, HOI⟩ := hrel
        have HBW : Hid (Below W0.heap.size W0 wr) := Lib.hid (HB.out.trans (HB2.out.mono HB.out.size))
        by_cases hlt : i < m.length
        · obtain ⟨q', c', hqe, hrow'⟩ := (nodesV_of_own HO9.out.two).below HB2.out
          cases hqe
          obtain ⟨b, off, rfl, hrow⟩ := hrow' (nonil hlt)
          have c0 := hrow.c0 i hlt
          have c1 := hrow.c1 i hlt
          have c2 := hrow.c2 i hlt
          have c3 := hrow.c3 i hlt
          obtain ⟨g1, g2, g3, g4⟩ := ins_take HRK.out HPW.out hlt
          have HWX := Lib.hid (rwith_any (insL kl (m.take i)) g1 (by have := HML.out; omega) m[i] g2 u8 wr (nodesV_of_own HOI.out))
          rw [← g3] at HWX
          have hii : (i : Int) < m.length := by omega
          clear hrow hrow' g1 g2 g3 g4
          go_wp2_with (go_at_call 36; refine HWX.out.mono ?_; rintro e w6 ⟨v6, rfl, ho6, hb6⟩; have HO6 := Lib.hid (ownsRow_le ho6 HBW.out.size); have HB6 := Lib.hid (HB2.out.trans (hb6.mono HB2.out.size)); clear ho6 hb6)
          go_roundw
          case rel => exact ⟨i + 1, by omega, by go_num, HB6, HO6⟩
          case measure => simp [intOf]; omega
        · obtain rfl : i = m.length := by omega
          have HOE : Hid (wr.ownsRow W0.heap.size 28 4 u8 (insL kl m).length (nodeVs (insL kl m))) := Lib.hid (by have := HOI.out; rw [List.take_length] at this; exact this)
          obtain ⟨q8, c8, hu8⟩ := nodesV_slice (nodesV_of_own HOE.out)
          subst hu8
          have HT := Lib.hid (HF.out _ HBW.out).2.1
          have HZ := Lib.hid (HF.out _ HBW.out).2.2
          have k0 := cell_at (o := 0) HT.out rfl
          have k1 := cell_at (o := 1) HT.out rfl
          have kz : wr.frozen? ⟨W.heap.size, 0, none⟩ = false := free_at HT.out
          go_upto_region 18 with fail
          obtain ⟨W4, hW4⟩ : ∃ W4, W4 = wr.setCell ⟨W.heap.size, 0, none⟩ (.slice q8 (insL kl m).length c8) := ⟨_, rfl⟩
          have HT4 : Hid (W4.heap[W.heap.size]? = some (.cells (keepV (.slice q8 (insL kl m).length c8) nx) 24)) := Lib.hid (by rw [hW4]; exact heap_set (o := 0) HT.out)
          have HZ4 : Hid (W4.heap[W.heap.size + 1]? = some (.cells (keepV (.slice none 0 0) 0) 24)) := Lib.hid (by rw [hW4, heap_set_ne _ _ _ _ _ (by omega)]; exact HZ.out)
          have HW4 : Hid (Below W.heap.size W W4) := Lib.hid (by rw [hW4]; exact (HF.out _ HBW.out).1.setCell (p := ⟨W.heap.size, 0, none⟩) (Nat.le_refl _) _)
          have hs0' := HS0.out
          have HO4 : Hid (W4.ownsRow W0.heap.size 28 4 (.slice q8 (insL kl m).length c8) (insL kl m).length (nodeVs (insL kl m))) := Lib.hid (by rw [hW4]; exact ownsRow_above HOE.out (heap_set_len _ _ _) (fun k hk => heap_set_ne _ _ _ _ _ (by omega)))
          rw [← hW4]
          clear hW4 k0 k1 kz
          have k0 := cell_at (o := 0) HT4.out rfl
          have k1 := cell_at (o := 1) HT4.out rfl
          go_wp2_with (refine wpl_store 24 ?_; intro ee he; refine wpList_store_row he _ _ _ ee (W.heap.size + 1) (keepV (.slice q8 (insL kl m).length c8) nx) rfl rfl 24 (keepV (.slice none 0 0) 0) HZ4.out (tree_size _ _) rfl (tree_one _) ?_)
          refine bodyPost_ret (res_cell_tmp rfl rfl (row_same HZ4.out) (by kernel_rfl) (tree_size _ _)) rfl ?_
          exact .inr ⟨HNL.out, _, rfl, ownsRow_le (ownsRow_above HO4.out (row_len _ _ _) (fun k hk => row_ne _ _ _ _ (by omega))) (by omega), below_row HW4.out _ _ (by omega)⟩
end Go.Proofs.YtlpgandflkabcaaGreatDoor
namespace Go.Proofs.YtlpgandflkabcaaGreatDoor
open Go Go.RowKit Go.Shelf
set_option linter.unusedVariables false
set_option linter.unusedSimpArgs false

/-- What the document's moved answers, for a fit tree. -/
def MovedPost (ns : List NodeD) (fr tw : List UInt8) (nx : Int) (W : World) (e : Ending) (w' : World) : Prop :=
  ∃ q n c b, e = .returned (.tuple #[.agg (keepV (.slice q n c) nx), .bool b]) ∧ ((b = false ∧ LongN fr tw (dropN ns tw)) ∨ (b = true ∧ ∃ l, ¬ LongN fr tw (dropN ns tw) ∧ l.Perm ((dropN ns tw).map (mvN fr tw)) ∧ (l.Pairwise fun a b => ¬ b.path < a.path) ∧ n = l.length ∧ w'.ownsRow W.heap.size 28 4 (.slice q n c) l.length (nodeVs l))) ∧ Below W.heap.size W w'
theorem moved_post {ns : List NodeD} {nx0 : Int} (hfit : FitT ns nx0) {fr tw : List UInt8} (hpre : preE ns fr tw = 0) (hne : fr ≠ tw) (v : Value) (nx : Int) (W : World) (hN : NodesV W v (dropN ns tw)) :
    Calls Tryz.prog 42 #[.agg (keepV v nx), .string (mkB fr), .string (mkB tw)] W (MovedPost ns fr tw nx W) := by
  obtain ⟨F, T, rfl, rfl, hR⟩ := ren_ok hfit hpre hne
  have hr := fit_riseS hfit
  have hrd := dropN_rise hr (rootL T)
  have hpb : ∀ x ∈ dropN ns (rootL T), pathB x.path = true := fun x hx => by
    obtain ⟨i, hi, rfl⟩ := List.getElem_of_mem (dropN_mem.1 hx).1
    exact (hfit.all i hi).path
  obtain ⟨k, hk, hkp⟩ := hR.there
  have hFp : pathB (rootL F) = true := by rw [← hkp]; exact (hfit.all k hk).path
  have h47 : rootL F ≠ [47] := fun e => hR.F0 ((rootL_slash hR.namesF).1 e)
  have hperm := keep_move_perm (rootL F) (rootL T) (dropN ns (rootL T))
  have hpw : (keepL (rootL F) (dropN ns (rootL T)) ++ moveL (rootL F) (rootL T) (dropN ns (rootL T))).Pairwise fun a b => a.path ≠ b.path := by
    refine (hperm.pairwise_iff (fun h => h.symm)).2 ?_
    rw [List.pairwise_map]
    refine List.Pairwise.imp_of_mem ?_ hrd
    intro a b ha hb hab
    exact ren_apart hR ha hb (fun e => by rw [e] at hab; exact ltS_irrefl _ hab)
  have h40 := hfit.forty
  obtain ⟨q0, c0, hv⟩ := nodesV_slice hN
  subst hv
  refine (rmoved_any (dropN ns (rootL T)) hrd (Nat.le_trans (dropN_le ns _) (by omega)) hpb (rootL F) (rootL T) hFp h47 hR.lenT hpw _ nx W hN).mono ?_
  have hlong : LongN (rootL F) (rootL T) (dropN ns (rootL T)) ↔ LongM (rootL F) (rootL T) (dropN ns (rootL T)) := by
    constructor
    · rintro ⟨j, hj, h⟩
      cases hm : mvd (rootL F) (dropN ns (rootL T))[j]
      · rw [mv_not hm] at h
        have := path_len (hpb _ (List.getElem_mem hj))
        omega
      · exact ⟨j, hj, hm, h⟩
    · rintro ⟨j, hj, _, h⟩
      exact ⟨j, hj, h⟩
  rintro e w' (⟨rfl, h1, h2⟩ | ⟨h1, v', rfl, h2, h3⟩)
  · exact ⟨q0, _, c0, false, rfl, .inl ⟨rfl, hlong.2 h1⟩, h2⟩
  · obtain ⟨q', c', hv'⟩ := nodesV_slice (nodesV_of_own h2)
    subst hv'
    obtain ⟨h4, h5⟩ := ins_facts _ _ (List.Pairwise.filter _ hrd) hpw
    exact ⟨q', _, c', true, rfl, .inr ⟨rfl, _, fun h => h1 (hlong.1 h), h5.trans hperm, h4.imp (fun h => ltS_asymm h), rfl, h2⟩, h3⟩
set_option maxRecDepth 100000 in
set_option maxHeartbeats 32000000 in
theorem rrename_any (ns : List NodeD) {nx0 : Int} (hfit : FitT ns nx0) (fr tw : List UInt8) (hfl : fr.length ≤ 1000000) (htl : tw.length ≤ 1000000) (v : Value) (nx : Int) (W : World) (hN : NodesV W v ns) :
    Calls Tryz.prog 16 #[.agg (keepV v nx), .string (mkB fr), .string (mkB tw)] W fun e w' => RenPost ns fr tw nx W e w' := by
  have hr := fit_riseS hfit
  have hpb : ∀ x ∈ ns, pathB x.path = true := fun x hx => by
    obtain ⟨i, hi, rfl⟩ := List.getElem_of_mem hx
    exact (hfit.all i hi).path
  have hlen : ns.length ≤ 40 := hfit.forty
  obtain ⟨q, c, rfl, hN0⟩ := hN
  have hN : NodesV W (.slice q ns.length c) ns := ⟨q, c, rfl, hN0⟩
  clear hN0
  have HN := Lib.hid hN
  have HPF := Lib.hid (fun w => rpath_any fr w hfl)
  have HPT := Lib.hid (fun w => rpath_any tw w htl)
  have HPRE : Hid (preE ns fr tw = if pathB fr = true ∧ pathB tw = true then (if findE ns fr = 0 then (if fr = [47] ∨ tw = [47] ∨ belowQ tw fr = true then 22 else if parentE ns tw = 0 then (if fr = tw then 0 else freeE ns (foundN ns fr) tw) else parentE ns tw) else findE ns fr) else 22) := Lib.hid rfl
  have HBAD : Hid (∀ E : Int, preE ns fr tw = E → E ≠ 0 → RenAns ns fr tw E ns) := Lib.hid (fun E h1 h2 => .inl ⟨by rw [h1]; exact h2, h1.symm, rfl⟩)
  have h47f : ((mkB fr).toList == [47]) = (fr == [47]) := by rw [mkB_toList]
  have h47t : ((mkB tw).toList == [47]) = (tw == [47]) := by rw [mkB_toList]
  have hft : ((mkB fr).toList == (mkB tw).toList) = (fr == tw) := by rw [mkB_toList, mkB_toList]
  cases hpf : pathB fr
  · have HFB := Lib.hid hpf
    have HRA : Hid (RenAns ns fr tw 22 ns) := Lib.hid (HBAD.out 22 (by rw [HPRE.out, if_neg (fun h => by rw [hpf] at h; cases h.1)]) (by decide))
    clear hN hr hlen hpb hpf HPRE HBAD h47f h47t hft
    go_enter Tryz.func16, Tryz.ntmps16
    go_upto_region 1 with fail
    have HF : Hid (∀ w', Below (W.heap.size + 2) ((W.alloc (.cells (keepV (.slice q ns.length c) nx) 24)).alloc (.cells (keepV (.slice none 0 0) 0) 24)) w' → Below W.heap.size W w' ∧ w'.heap[W.heap.size]? = some (.cells (keepV (.slice q ns.length c) nx) 24) ∧ w'.heap[W.heap.size + 1]? = some (.cells (keepV (.slice none 0 0) 0) 24)) := Lib.hid (fun w' h => kept2 h)
    have HS0 : Hid (((W.alloc (.cells (keepV (.slice q ns.length c) nx) 24)).alloc (.cells (keepV (.slice none 0 0) 0) 24)).heap.size = W.heap.size + 2) := Lib.hid (by simp only [heap_len])
    generalize hK : ((W.alloc (.cells (keepV (.slice q ns.length c) nx) 24)).alloc (.cells (keepV (.slice none 0 0) 0) 24)) = K0 at HF HS0 ⊢
    have s0 := cell_at (o := 0) (HF.out K0 (Below.refl _ _)).2.1 rfl
    have s1 := cell_at (o := 1) (HF.out K0 (Below.refl _ _)).2.1 rfl
    have HZ0 := Lib.hid (HF.out K0 (Below.refl _ _)).2.2
    clear hK
    go_wp2_with (first
      | (go_at_call 19; with_reducible refine (HPF.out _).mono ?_; rintro e w1 ⟨rfl, hw1⟩; obtain rfl := hw1.symm; rw [HFB.out])
      | (refine wpl_store 24 ?_; intro ee he; refine wpList_store_row he _ _ _ ee (W.heap.size + 1) (keepV (.slice q ns.length c) nx) rfl rfl 24 (keepV (.slice none 0 0) 0) HZ0.out (tree_size _ _) rfl (tree_one _) ?_))
    refine bodyPost_ret (res_cell_tmp rfl rfl (row_same HZ0.out) (by kernel_rfl) (tree_size _ _)) rfl ?_
    exact renPost_mk _ _ ns rfl (NodesV.below HN.out (below_row (HF.out _ (Below.refl _ _)).1 _ _ (by omega))) HRA.out (below_row (HF.out _ (Below.refl _ _)).1 _ _ (by omega))
  · have HFB := Lib.hid hpf
    cases hpt : pathB tw
    · have HTB := Lib.hid hpt
      have HRA : Hid (RenAns ns fr tw 22 ns) := Lib.hid (HBAD.out 22 (by rw [HPRE.out, if_neg (fun h => by rw [hpt] at h; cases h.2)]) (by decide))
      clear hN hr hlen hpb hpf hpt HPRE HBAD h47f h47t hft
      go_enter Tryz.func16, Tryz.ntmps16
      go_upto_region 1 with fail
      have HF : Hid (∀ w', Below (W.heap.size + 2) ((W.alloc (.cells (keepV (.slice q ns.length c) nx) 24)).alloc (.cells (keepV (.slice none 0 0) 0) 24)) w' → Below W.heap.size W w' ∧ w'.heap[W.heap.size]? = some (.cells (keepV (.slice q ns.length c) nx) 24) ∧ w'.heap[W.heap.size + 1]? = some (.cells (keepV (.slice none 0 0) 0) 24)) := Lib.hid (fun w' h => kept2 h)
      have HS0 : Hid (((W.alloc (.cells (keepV (.slice q ns.length c) nx) 24)).alloc (.cells (keepV (.slice none 0 0) 0) 24)).heap.size = W.heap.size + 2) := Lib.hid (by simp only [heap_len])
      generalize hK : ((W.alloc (.cells (keepV (.slice q ns.length c) nx) 24)).alloc (.cells (keepV (.slice none 0 0) 0) 24)) = K0 at HF HS0 ⊢
      have s0 := cell_at (o := 0) (HF.out K0 (Below.refl _ _)).2.1 rfl
      have s1 := cell_at (o := 1) (HF.out K0 (Below.refl _ _)).2.1 rfl
      have HZ0 := Lib.hid (HF.out K0 (Below.refl _ _)).2.2
      clear hK
      go_wp2_with (first
        | (go_at_call 19; with_reducible refine (HPF.out _).mono ?_; rintro e w1 ⟨rfl, hw1⟩; obtain rfl := hw1.symm; rw [HFB.out])
        | (go_at_call 19; with_reducible refine (HPT.out _).mono ?_; rintro e w2 ⟨rfl, hw2⟩; obtain rfl := hw2.symm; rw [HTB.out])
        | (refine wpl_store 24 ?_; intro ee he; refine wpList_store_row he _ _ _ ee (W.heap.size + 1) (keepV (.slice q ns.length c) nx) rfl rfl 24 (keepV (.slice none 0 0) 0) HZ0.out (tree_size _ _) rfl (tree_one _) ?_))
      refine bodyPost_ret (res_cell_tmp rfl rfl (row_same HZ0.out) (by kernel_rfl) (tree_size _ _)) rfl ?_
      exact renPost_mk _ _ ns rfl (NodesV.below HN.out (below_row (HF.out _ (Below.refl _ _)).1 _ _ (by omega))) HRA.out (below_row (HF.out _ (Below.refl _ _)).1 _ _ (by omega))
    · have HTB := Lib.hid hpt
      replace HPRE := Lib.hid (HPRE.out.trans (if_pos ⟨hpf, hpt⟩))
      have HFI : Hid (∀ (W' : World), Below W.heap.size W W' → Calls Tryz.prog 37 #[.agg (keepV (.slice q ns.length c) nx), .string (mkB fr)] W' fun e w' => e = .returned (.tuple #[.agg (nodeV (foundN ns fr)), .int .i64 (findE ns fr)]) ∧ Below W'.heap.size W' w') := Lib.hid (fun W' hb => rfind_any ns hr (by omega) fr hfl _ nx W' (hN.below hb))
      have HBE : Hid (∀ w, Calls Tryz.prog 40 #[.string (mkB tw), .string (mkB fr)] w fun e w' => e = .returned (.bool (belowQ tw fr)) ∧ w' = w) := Lib.hid (fun w => rbelow_any tw fr hpt hpf w)
      have HPA : Hid (∀ (W' : World), Below W.heap.size W W' → Calls Tryz.prog 35 #[.agg (keepV (.slice q ns.length c) nx), .string (mkB tw)] W' fun e w' => e = .returned (.int .i64 (parentE ns tw)) ∧ Below W'.heap.size W' w') := Lib.hid (fun W' hb => rdir_any ns hr (by omega) tw hpt _ nx W' (hN.below hb))
      have HFR : Hid (∀ (W' : World), Below W.heap.size W W' → Calls Tryz.prog 41 #[.agg (keepV (.slice q ns.length c) nx), .agg (nodeV (foundN ns fr)), .string (mkB tw)] W' fun e w' => e = .returned (.int .i64 (freeE ns (foundN ns fr) tw)) ∧ Below W'.heap.size W' w') := Lib.hid (fun W' hb => rover_any ns hr hpb (by omega) _ tw hpt _ nx W' (hN.below hb))
      have HNEV : Hid (findE ns fr = 0 → 0 < ns.length ∧ (fr ≠ tw → True)) := Lib.hid (fun h => by
        obtain ⟨_, k, hk, hkp, _⟩ := findE_zero hr h
        exact ⟨by omega, fun _ => trivial⟩)
      have HWO : Hid (0 < ns.length → ∀ (W' : World), Below W.heap.size W W' → Calls Tryz.prog 39 #[.agg (keepV (.slice q ns.length c) nx), .string (mkB tw)] W' fun e w' => ∃ v', e = .returned v' ∧ w'.ownsRow W'.heap.size 28 4 v' (dropN ns tw).length (nodeVs (dropN ns tw)) ∧ Below W'.heap.size W' w') := Lib.hid (fun _ W' hb => rwithout_any ns (by omega) tw _ nx W' (hN.below hb))
      have HMO : Hid (preE ns fr tw = 0 ∧ fr ≠ tw → ∀ (v : Value) (W' : World), NodesV W' v (dropN ns tw) → Calls Tryz.prog 42 #[.agg (keepV v nx), .string (mkB fr), .string (mkB tw)] W' (MovedPost ns fr tw nx W')) := Lib.hid (fun h v W' hN' => moved_post hfit h.1 h.2 v nx W' hN')
      clear hN hr hlen hpb hpf hpt
      generalize foundN ns fr = x at HFI HFR HPRE
      by_cases hfe : findE ns fr = 0
      · rw [hfe] at HFI
        replace HPRE := Lib.hid (HPRE.out.trans (if_pos hfe))
        replace HWO := Lib.hid (HWO.out (HNEV.out hfe).1)
        clear hfe
        cases e1 : (fr == [47])
        · rw [e1] at h47f
          have HE1 := Lib.hid (beq_eq_false_iff_ne.1 e1)
          clear e1
          cases e2 : (tw == [47])
          · rw [e2] at h47t
            have HE2 := Lib.hid (beq_eq_false_iff_ne.1 e2)
            clear e2
            cases e3 : belowQ tw fr
            · rw [e3] at HBE
              replace HPRE := Lib.hid (HPRE.out.trans (if_neg (fun h => h.elim HE1.out (fun h => h.elim HE2.out (fun h => by rw [e3] at h; cases h)))))
              clear e3
              by_cases hpe : parentE ns tw = 0
              · rw [hpe] at HPA
                replace HPRE := Lib.hid (HPRE.out.trans (if_pos hpe))
                clear hpe
                cases e4 : (fr == tw)
                · have HNE := Lib.hid (beq_eq_false_iff_ne.1 e4)
                  rw [e4] at hft
                  replace HPRE := Lib.hid (HPRE.out.trans (if_neg HNE.out))
                  clear e4
                  generalize freeE ns x tw = fe at HFR HPRE
                  by_cases hfz : fe = 0
                  · subst hfz
                    have HPE : Hid (preE ns fr tw = 0) := Lib.hid HPRE.out
                    replace HMO := Lib.hid (HMO.out ⟨HPE.out, HNE.out⟩)
                    clear HPRE HBAD
                    go_enter Tryz.func16, Tryz.ntmps16
                    go_upto_region 1 with fail
                    have HF : Hid (∀ w', Below (W.heap.size + 2) ((W.alloc (.cells (keepV (.slice q ns.length c) nx) 24)).alloc (.cells (keepV (.slice none 0 0) 0) 24)) w' → Below W.heap.size W w' ∧ w'.heap[W.heap.size]? = some (.cells (keepV (.slice q ns.length c) nx) 24) ∧ w'.heap[W.heap.size + 1]? = some (.cells (keepV (.slice none 0 0) 0) 24)) := Lib.hid (fun w' h => kept2 h)
                    have HS0 : Hid (((W.alloc (.cells (keepV (.slice q ns.length c) nx) 24)).alloc (.cells (keepV (.slice none 0 0) 0) 24)).heap.size = W.heap.size + 2) := Lib.hid (by simp only [heap_len])
                    generalize hK : ((W.alloc (.cells (keepV (.slice q ns.length c) nx) 24)).alloc (.cells (keepV (.slice none 0 0) 0) 24)) = K0 at HF HS0 ⊢
                    have s0 := cell_at (o := 0) (HF.out K0 (Below.refl _ _)).2.1 rfl
                    have s1 := cell_at (o := 1) (HF.out K0 (Below.refl _ _)).2.1 rfl
                    have HZ0 := Lib.hid (HF.out K0 (Below.refl _ _)).2.2
                    clear hK
                    go_upto_region 4 with (first
                      | (go_at_call 19; with_reducible refine (HPF.out _).mono ?_; rintro e w1 ⟨rfl, hw1⟩; obtain rfl := hw1.symm; rw [HFB.out])
                      | (go_at_call 19; with_reducible refine (HPT.out _).mono ?_; rintro e w2 ⟨rfl, hw2⟩; obtain rfl := hw2.symm; rw [HTB.out])
                      | (go_at_call 37; refine (HFI.out _ (HF.out _ (Below.refl _ _)).1).mono ?_; rintro e w3 ⟨rfl, hb3⟩; have HB3 : Hid (Below (W.heap.size + 2) K0 w3) := Lib.hid (hb3.mono (by rw [HS0.out]; exact Nat.le_refl _)); clear hb3))
                    clear s0 s1 HZ0
                    have HA : Hid (∀ o, Below (W.heap.size + 2) K0 (w3.alloc o)) := Lib.hid (fun o => HB3.out.alloc (by have := HB3.out.size; have := HS0.out; omega) _)
                    have HAZ := Lib.hid (fun o => HF.out _ (HA.out o))
                    have t0 := fun o => cell_at (o := 0) (HAZ.out o).2.1 rfl
                    have t1 := fun o => cell_at (o := 1) (HAZ.out o).2.1 rfl
                    have HZ := Lib.hid (HAZ.out (.cells (nodeV x) 28)).2.2
                    go_upto_region 16 with (first
                      | (go_at_call 40; refine (HBE.out _).mono ?_; rintro e wb ⟨rfl, rfl⟩)
                      | (go_at_call 35; refine (HPA.out _ (HAZ.out _).1).mono ?_; rintro e w4 ⟨rfl, hb4⟩; have HX4 := Lib.hid ((hb4.block w3.heap.size (by simp only [heap_len]; omega)).trans (heap_new w3 (.cells (nodeV x) 28) _ rfl)); have HB4 : Hid (Below (W.heap.size + 2) K0 w4) := Lib.hid ((HA.out _).trans (hb4.mono (by have := HB3.out.size; have := HS0.out; simp only [heap_len]; omega))); have t40 := cell_at (o := 0) (HF.out _ HB4.out).2.1 rfl; have t41 := cell_at (o := 1) (HF.out _ HB4.out).2.1 rfl; have HZ4 := Lib.hid (HF.out _ HB4.out).2.2; have z0 := cell_at (o := 0) HX4.out rfl; have z1 := cell_at (o := 1) HX4.out rfl; have z2 := cell_at (o := 2) HX4.out rfl; have z3 := cell_at (o := 3) HX4.out rfl; clear hb4)
                      | (go_at_call 41; refine (HFR.out _ (HF.out _ HB4.out).1).mono ?_; rintro e w5 ⟨rfl, hb5⟩; have HB5 : Hid (Below (W.heap.size + 2) K0 w5) := Lib.hid (HB4.out.trans (hb5.mono (by have := HB4.out.size; have := HS0.out; omega))); have t50 := cell_at (o := 0) (HF.out _ HB5.out).2.1 rfl; have t51 := cell_at (o := 1) (HF.out _ HB5.out).2.1 rfl; have HZ5 := Lib.hid (HF.out _ HB5.out).2.2; clear hb5))
                    clear t0 t1 HZ t40 t41 HZ4 z0 z1 z2 z3
                    go_upto_region 17 with fail
                    obtain ⟨W6, hW6⟩ : ∃ W6, W6 = w5.alloc (.cells (keepV (.slice q ns.length c) nx) 24) := ⟨_, rfl⟩
                    have HB6 : Hid (Below (W.heap.size + 2) K0 W6) := Lib.hid (by rw [hW6]; exact HB5.out.alloc (by have := HB5.out.size; have := HS0.out; omega) _)
                    have HK6 := Lib.hid (HF.out _ HB6.out)
                    have H6 : Hid (W6.heap[w5.heap.size]? = some (.cells (keepV (.slice q ns.length c) nx) 24)) := Lib.hid (by rw [hW6]; exact heap_new _ _ _ rfl)
                    have hs5 : W.heap.size + 2 ≤ w5.heap.size := by have := HB5.out.size; rw [HS0.out] at this; exact this
                    have hs6 : W6.heap.size = w5.heap.size + 1 := by rw [hW6]; exact heap_len _ _
                    rw [← hW6]
                    clear hW6 t50 t51 HZ5
                    have s0 := cell_at (o := 0) HK6.out.2.1 rfl
                    have s1 := cell_at (o := 1) HK6.out.2.1 rfl
                    go_upto_region 18 with (go_at_call 39; refine (HWO.out _ HK6.out.1).mono ?_; rintro e w7 ⟨v7, rfl, ho7, hb7⟩; obtain ⟨q7, c7, rfl⟩ := nodesV_slice (nodesV_of_own ho7); have HO7 := Lib.hid ho7; have HB7 := Lib.hid hb7; have u0 := cell_at (o := 0) ((hb7.block _ (heap_lt H6.out)).trans H6.out) rfl; have u1 := cell_at (o := 1) ((hb7.block _ (heap_lt H6.out)).trans H6.out) rfl; have uz : w7.frozen? ⟨w5.heap.size, 0, none⟩ = false := free_at ((hb7.block _ (heap_lt H6.out)).trans H6.out); clear ho7 hb7)
                    clear s0 s1
                    obtain ⟨W8, hW8⟩ : ∃ W8, W8 = w7.setCell ⟨w5.heap.size, 0, none⟩ (.slice q7 (dropN ns tw).length c7) := ⟨_, rfl⟩
                    have H8 : Hid (W8.heap[w5.heap.size]? = some (.cells (keepV (.slice q7 (dropN ns tw).length c7) nx) 24)) := Lib.hid (by rw [hW8]; exact heap_set (o := 0) ((HB7.out.block _ (heap_lt H6.out)).trans H6.out))
                    have HB8 : Hid (Below (W.heap.size + 2) K0 W8) := Lib.hid (by rw [hW8]; exact (HB6.out.trans (HB7.out.mono (by omega))).setCell (p := ⟨w5.heap.size, 0, none⟩) (by show W.heap.size + 2 ≤ w5.heap.size; exact hs5) _)
                    have HO8 : Hid (NodesV W8 (.slice q7 (dropN ns tw).length c7) (dropN ns tw)) := Lib.hid (by rw [hW8]; exact nodesV_of_own (ownsRow_above HO7.out (heap_set_len _ _ _) (fun k hk => heap_set_ne _ _ _ _ _ (by omega))))
                    rw [← hW8]
                    clear hW8 u0 u1 uz
                    have u0 := cell_at (o := 0) H8.out rfl
                    have u1 := cell_at (o := 1) H8.out rfl
                    have HM8 := Lib.hid (HMO.out _ W8 HO8.out)
                    have HS8 : Hid (∀ w9, Below W8.heap.size W8 w9 → w9.heap[w5.heap.size]? = some (.cells (keepV (.slice q7 (dropN ns tw).length c7) nx) 24) ∧ Below (W.heap.size + 2) K0 w9) := Lib.hid (fun w9 h => ⟨(h.block _ (heap_lt H8.out)).trans H8.out, HB8.out.trans (h.mono (by have := HB8.out.size; rw [HS0.out] at this; exact this))⟩)
                    go_upto_region 19 with (first
                      | (go_at_call 42; refine HM8.out.mono ?_; rintro e w9 ⟨q9, n9, c9, bb, rfl, hans, hb9⟩; have HAN := Lib.hid hans; have HB9 := Lib.hid (HS8.out _ hb9).2; have H9 := Lib.hid (HS8.out _ hb9).1; clear hans hb9)
                      | (refine wpl_store 24 ?_; intro ee he; refine wpList_store_row he _ _ _ ee w5.heap.size (keepV (.slice q9 n9 c9) nx) rfl rfl 24 (keepV (.slice q7 (dropN ns tw).length c7) nx) H9.out (tree_size _ _) rfl (tree_one _) ?_))
                    clear u0 u1
                    obtain ⟨WA, hWA⟩ : ∃ WA, WA = w9.setRow w5.heap.size (keepV (.slice q9 n9 c9) nx) := ⟨_, rfl⟩
                    have HA9 : Hid (WA.heap[w5.heap.size]? = some (.cells (keepV (.slice q9 n9 c9) nx) 24)) := Lib.hid (by rw [hWA]; exact row_same H9.out)
                    have HBA : Hid (Below (W.heap.size + 2) K0 WA) := Lib.hid (by rw [hWA]; exact below_row HB9.out _ _ hs5)
                    have HNA : Hid (∀ l, w9.ownsRow W8.heap.size 28 4 (.slice q9 n9 c9) l.length (nodeVs l) → WA.ownsRow W8.heap.size 28 4 (.slice q9 n9 c9) l.length (nodeVs l)) := Lib.hid (fun l h => by rw [hWA]; exact ownsRow_above h (row_len _ _ _) (fun k hk => row_ne _ _ _ _ (by have := heap_lt H8.out; omega)))
                    rw [← hWA]
                    clear hWA
                    have a0 := cell_at (o := 0) HA9.out rfl
                    have a1 := cell_at (o := 1) HA9.out rfl
                    have s0 := cell_at (o := 0) (HF.out _ HBA.out).2.1 rfl
                    have s1 := cell_at (o := 1) (HF.out _ HBA.out).2.1 rfl
                    have HZA := Lib.hid (HF.out _ HBA.out).2.2
                    cases bb
                    · have HL : Hid (LongN fr tw (dropN ns tw)) := Lib.hid (by
                        rcases HAN.out with ⟨_, h⟩ | ⟨h, _⟩
                        · exact h
                        · cases h)
                      go_wp2_with (refine wpl_store 24 ?_; intro ee he; refine wpList_store_row he _ _ _ ee (W.heap.size + 1) (keepV (.slice q ns.length c) nx) rfl rfl 24 (keepV (.slice none 0 0) 0) HZA.out (tree_size _ _) rfl (tree_one _) ?_)
                      refine bodyPost_ret (res_cell_tmp rfl rfl (row_same HZA.out) (by kernel_rfl) (tree_size _ _)) rfl ?_
                      exact renPost_mk _ _ ns rfl (NodesV.below HN.out (below_row (HF.out _ HBA.out).1 _ _ (by omega))) (.inr (.inr (.inl ⟨HPE.out, HNE.out, HL.out, rfl, rfl⟩))) (below_row (HF.out _ HBA.out).1 _ _ (by omega))
                    · have HL : Hid (∃ l, RenAns ns fr tw 0 l ∧ n9 = l.length ∧ w9.ownsRow W8.heap.size 28 4 (.slice q9 n9 c9) l.length (nodeVs l)) := Lib.hid (by
                        rcases HAN.out with ⟨h, _⟩ | ⟨_, l, h1, h2, h3, h4, h5⟩
                        · cases h
                        · exact ⟨l, .inr (.inr (.inr ⟨HPE.out, HNE.out, h1, rfl, h2, h3⟩)), h4, h5⟩)
                      obtain ⟨l, hl1, hl2, hl3⟩ := HL.out
                      subst hl2
                      have HL1 := Lib.hid hl1
                      have HL3 := Lib.hid (HNA.out l hl3)
                      clear hl1 hl3 HL HAN
                      go_wp2_with (refine wpl_store 24 ?_; intro ee he; refine wpList_store_row he _ _ _ ee (W.heap.size + 1) (keepV (.slice q9 l.length c9) nx) rfl rfl 24 (keepV (.slice none 0 0) 0) HZA.out (tree_size _ _) rfl (tree_one _) ?_)
                      refine bodyPost_ret (res_cell_tmp rfl rfl (row_same HZA.out) (by kernel_rfl) (tree_size _ _)) rfl ?_
                      exact renPost_mk _ _ l rfl (nodesV_of_own (ownsRow_above HL3.out (row_len _ _ _) (fun k hk => row_ne _ _ _ _ (by have := heap_lt H8.out; omega)))) HL1.out (below_row (HF.out _ HBA.out).1 _ _ (by omega))
                  · have HRA : Hid (RenAns ns fr tw fe ns) := Lib.hid (HBAD.out fe HPRE.out hfz)
                    clear HPRE HBAD HMO HWO
                    go_enter Tryz.func16, Tryz.ntmps16
                    go_upto_region 1 with fail
                    have HF : Hid (∀ w', Below (W.heap.size + 2) ((W.alloc (.cells (keepV (.slice q ns.length c) nx) 24)).alloc (.cells (keepV (.slice none 0 0) 0) 24)) w' → Below W.heap.size W w' ∧ w'.heap[W.heap.size]? = some (.cells (keepV (.slice q ns.length c) nx) 24) ∧ w'.heap[W.heap.size + 1]? = some (.cells (keepV (.slice none 0 0) 0) 24)) := Lib.hid (fun w' h => kept2 h)
                    have HS0 : Hid (((W.alloc (.cells (keepV (.slice q ns.length c) nx) 24)).alloc (.cells (keepV (.slice none 0 0) 0) 24)).heap.size = W.heap.size + 2) := Lib.hid (by simp only [heap_len])
                    generalize hK : ((W.alloc (.cells (keepV (.slice q ns.length c) nx) 24)).alloc (.cells (keepV (.slice none 0 0) 0) 24)) = K0 at HF HS0 ⊢
                    have s0 := cell_at (o := 0) (HF.out K0 (Below.refl _ _)).2.1 rfl
                    have s1 := cell_at (o := 1) (HF.out K0 (Below.refl _ _)).2.1 rfl
                    have HZ0 := Lib.hid (HF.out K0 (Below.refl _ _)).2.2
                    clear hK
                    go_upto_region 4 with (first
                      | (go_at_call 19; with_reducible refine (HPF.out _).mono ?_; rintro e w1 ⟨rfl, hw1⟩; obtain rfl := hw1.symm; rw [HFB.out])
                      | (go_at_call 19; with_reducible refine (HPT.out _).mono ?_; rintro e w2 ⟨rfl, hw2⟩; obtain rfl := hw2.symm; rw [HTB.out])
                      | (go_at_call 37; refine (HFI.out _ (HF.out _ (Below.refl _ _)).1).mono ?_; rintro e w3 ⟨rfl, hb3⟩; have HB3 : Hid (Below (W.heap.size + 2) K0 w3) := Lib.hid (hb3.mono (by rw [HS0.out]; exact Nat.le_refl _)); clear hb3))
                    clear s0 s1 HZ0
                    have HA : Hid (∀ o, Below (W.heap.size + 2) K0 (w3.alloc o)) := Lib.hid (fun o => HB3.out.alloc (by have := HB3.out.size; have := HS0.out; omega) _)
                    have HAZ := Lib.hid (fun o => HF.out _ (HA.out o))
                    have t0 := fun o => cell_at (o := 0) (HAZ.out o).2.1 rfl
                    have t1 := fun o => cell_at (o := 1) (HAZ.out o).2.1 rfl
                    have HZ := Lib.hid (HAZ.out (.cells (nodeV x) 28)).2.2
                    go_wp2_with (first
                      | (go_at_call 40; refine (HBE.out _).mono ?_; rintro e wb ⟨rfl, rfl⟩)
                      | (go_at_call 35; refine (HPA.out _ (HAZ.out _).1).mono ?_; rintro e w4 ⟨rfl, hb4⟩; have HX4 := Lib.hid ((hb4.block w3.heap.size (by simp only [heap_len]; omega)).trans (heap_new w3 (.cells (nodeV x) 28) _ rfl)); have HB4 : Hid (Below (W.heap.size + 2) K0 w4) := Lib.hid ((HA.out _).trans (hb4.mono (by have := HB3.out.size; have := HS0.out; simp only [heap_len]; omega))); have t40 := cell_at (o := 0) (HF.out _ HB4.out).2.1 rfl; have t41 := cell_at (o := 1) (HF.out _ HB4.out).2.1 rfl; have HZ4 := Lib.hid (HF.out _ HB4.out).2.2; have z0 := cell_at (o := 0) HX4.out rfl; have z1 := cell_at (o := 1) HX4.out rfl; have z2 := cell_at (o := 2) HX4.out rfl; have z3 := cell_at (o := 3) HX4.out rfl; clear hb4)
                      | (go_at_call 41; refine (HFR.out _ (HF.out _ HB4.out).1).mono ?_; rintro e w5 ⟨rfl, hb5⟩; have HB5 : Hid (Below (W.heap.size + 2) K0 w5) := Lib.hid (HB4.out.trans (hb5.mono (by have := HB4.out.size; have := HS0.out; omega))); have t50 := cell_at (o := 0) (HF.out _ HB5.out).2.1 rfl; have t51 := cell_at (o := 1) (HF.out _ HB5.out).2.1 rfl; have HZ5 := Lib.hid (HF.out _ HB5.out).2.2; clear hb5)
                      | (refine wpl_store 24 ?_; intro ee he; refine wpList_store_row he _ _ _ ee (W.heap.size + 1) (keepV (.slice q ns.length c) nx) rfl rfl 24 (keepV (.slice none 0 0) 0) HZ5.out (tree_size _ _) rfl (tree_one _) ?_))
                    refine bodyPost_ret (res_cell_tmp rfl rfl (row_same HZ5.out) (by kernel_rfl) (tree_size _ _)) rfl ?_
                    exact renPost_mk _ _ ns rfl (NodesV.below HN.out (below_row (HF.out _ HB5.out).1 _ _ (by omega))) HRA.out (below_row (HF.out _ HB5.out).1 _ _ (by omega))
                · have HRA : Hid (RenAns ns fr tw 0 ns) := Lib.hid (.inr (.inl ⟨HPRE.out.trans (if_pos (beq_iff_eq.1 e4)), beq_iff_eq.1 e4, rfl, rfl⟩))
                  rw [e4] at hft
                  clear e4 HPRE HBAD HMO HWO HFR HNEV
                  go_enter Tryz.func16, Tryz.ntmps16
                  go_upto_region 1 with fail
                  have HF : Hid (∀ w', Below (W.heap.size + 2) ((W.alloc (.cells (keepV (.slice q ns.length c) nx) 24)).alloc (.cells (keepV (.slice none 0 0) 0) 24)) w' → Below W.heap.size W w' ∧ w'.heap[W.heap.size]? = some (.cells (keepV (.slice q ns.length c) nx) 24) ∧ w'.heap[W.heap.size + 1]? = some (.cells (keepV (.slice none 0 0) 0) 24)) := Lib.hid (fun w' h => kept2 h)
                  have HS0 : Hid (((W.alloc (.cells (keepV (.slice q ns.length c) nx) 24)).alloc (.cells (keepV (.slice none 0 0) 0) 24)).heap.size = W.heap.size + 2) := Lib.hid (by simp only [heap_len])
                  generalize hK : ((W.alloc (.cells (keepV (.slice q ns.length c) nx) 24)).alloc (.cells (keepV (.slice none 0 0) 0) 24)) = K0 at HF HS0 ⊢
                  have s0 := cell_at (o := 0) (HF.out K0 (Below.refl _ _)).2.1 rfl
                  have s1 := cell_at (o := 1) (HF.out K0 (Below.refl _ _)).2.1 rfl
                  have HZ0 := Lib.hid (HF.out K0 (Below.refl _ _)).2.2
                  clear hK
                  go_upto_region 4 with (first
                    | (go_at_call 19; with_reducible refine (HPF.out _).mono ?_; rintro e w1 ⟨rfl, hw1⟩; obtain rfl := hw1.symm; rw [HFB.out])
                    | (go_at_call 19; with_reducible refine (HPT.out _).mono ?_; rintro e w2 ⟨rfl, hw2⟩; obtain rfl := hw2.symm; rw [HTB.out])
                    | (go_at_call 37; refine (HFI.out _ (HF.out _ (Below.refl _ _)).1).mono ?_; rintro e w3 ⟨rfl, hb3⟩; have HB3 : Hid (Below (W.heap.size + 2) K0 w3) := Lib.hid (hb3.mono (by rw [HS0.out]; exact Nat.le_refl _)); clear hb3))
                  clear s0 s1 HZ0
                  have HA : Hid (∀ o, Below (W.heap.size + 2) K0 (w3.alloc o)) := Lib.hid (fun o => HB3.out.alloc (by have := HB3.out.size; have := HS0.out; omega) _)
                  have HAZ := Lib.hid (fun o => HF.out _ (HA.out o))
                  have t0 := fun o => cell_at (o := 0) (HAZ.out o).2.1 rfl
                  have t1 := fun o => cell_at (o := 1) (HAZ.out o).2.1 rfl
                  have HZ := Lib.hid (HAZ.out (.cells (nodeV x) 28)).2.2
                  go_wp2_with (first
                    | (go_at_call 40; refine (HBE.out _).mono ?_; rintro e wb ⟨rfl, rfl⟩)
                    | (go_at_call 35; refine (HPA.out _ (HAZ.out _).1).mono ?_; rintro e w4 ⟨rfl, hb4⟩; have HX4 := Lib.hid ((hb4.block w3.heap.size (by simp only [heap_len]; omega)).trans (heap_new w3 (.cells (nodeV x) 28) _ rfl)); have HB4 : Hid (Below (W.heap.size + 2) K0 w4) := Lib.hid ((HA.out _).trans (hb4.mono (by have := HB3.out.size; have := HS0.out; simp only [heap_len]; omega))); have t40 := cell_at (o := 0) (HF.out _ HB4.out).2.1 rfl; have t41 := cell_at (o := 1) (HF.out _ HB4.out).2.1 rfl; have HZ4 := Lib.hid (HF.out _ HB4.out).2.2; have z0 := cell_at (o := 0) HX4.out rfl; have z1 := cell_at (o := 1) HX4.out rfl; have z2 := cell_at (o := 2) HX4.out rfl; have z3 := cell_at (o := 3) HX4.out rfl; clear hb4)
                    | (refine wpl_store 24 ?_; intro ee he; refine wpList_store_row he _ _ _ ee (W.heap.size + 1) (keepV (.slice q ns.length c) nx) rfl rfl 24 (keepV (.slice none 0 0) 0) HZ4.out (tree_size _ _) rfl (tree_one _) ?_))
                  refine bodyPost_ret (res_cell_tmp rfl rfl (row_same HZ4.out) (by kernel_rfl) (tree_size _ _)) rfl ?_
                  exact renPost_mk _ _ ns rfl (NodesV.below HN.out (below_row (HF.out _ HB4.out).1 _ _ (by omega))) HRA.out (below_row (HF.out _ HB4.out).1 _ _ (by omega))
              · have HRA : Hid (RenAns ns fr tw (parentE ns tw) ns) := Lib.hid (HBAD.out _ (HPRE.out.trans (if_neg hpe)) hpe)
                clear HPRE HBAD HMO HWO HFR HNEV
                generalize parentE ns tw = pe at HPA hpe HRA
                go_enter Tryz.func16, Tryz.ntmps16
                go_upto_region 1 with fail
                have HF : Hid (∀ w', Below (W.heap.size + 2) ((W.alloc (.cells (keepV (.slice q ns.length c) nx) 24)).alloc (.cells (keepV (.slice none 0 0) 0) 24)) w' → Below W.heap.size W w' ∧ w'.heap[W.heap.size]? = some (.cells (keepV (.slice q ns.length c) nx) 24) ∧ w'.heap[W.heap.size + 1]? = some (.cells (keepV (.slice none 0 0) 0) 24)) := Lib.hid (fun w' h => kept2 h)
                have HS0 : Hid (((W.alloc (.cells (keepV (.slice q ns.length c) nx) 24)).alloc (.cells (keepV (.slice none 0 0) 0) 24)).heap.size = W.heap.size + 2) := Lib.hid (by simp only [heap_len])
                generalize hK : ((W.alloc (.cells (keepV (.slice q ns.length c) nx) 24)).alloc (.cells (keepV (.slice none 0 0) 0) 24)) = K0 at HF HS0 ⊢
                have s0 := cell_at (o := 0) (HF.out K0 (Below.refl _ _)).2.1 rfl
                have s1 := cell_at (o := 1) (HF.out K0 (Below.refl _ _)).2.1 rfl
                have HZ0 := Lib.hid (HF.out K0 (Below.refl _ _)).2.2
                clear hK
                go_upto_region 4 with (first
                  | (go_at_call 19; with_reducible refine (HPF.out _).mono ?_; rintro e w1 ⟨rfl, hw1⟩; obtain rfl := hw1.symm; rw [HFB.out])
                  | (go_at_call 19; with_reducible refine (HPT.out _).mono ?_; rintro e w2 ⟨rfl, hw2⟩; obtain rfl := hw2.symm; rw [HTB.out])
                  | (go_at_call 37; refine (HFI.out _ (HF.out _ (Below.refl _ _)).1).mono ?_; rintro e w3 ⟨rfl, hb3⟩; have HB3 : Hid (Below (W.heap.size + 2) K0 w3) := Lib.hid (hb3.mono (by rw [HS0.out]; exact Nat.le_refl _)); clear hb3))
                clear s0 s1 HZ0
                have HA : Hid (∀ o, Below (W.heap.size + 2) K0 (w3.alloc o)) := Lib.hid (fun o => HB3.out.alloc (by have := HB3.out.size; have := HS0.out; omega) _)
                have HAZ := Lib.hid (fun o => HF.out _ (HA.out o))
                have t0 := fun o => cell_at (o := 0) (HAZ.out o).2.1 rfl
                have t1 := fun o => cell_at (o := 1) (HAZ.out o).2.1 rfl
                have HZ := Lib.hid (HAZ.out (.cells (nodeV x) 28)).2.2
                go_wp2_with (first
                  | (go_at_call 40; refine (HBE.out _).mono ?_; rintro e wb ⟨rfl, rfl⟩)
                  | (go_at_call 35; refine (HPA.out _ (HAZ.out _).1).mono ?_; rintro e w4 ⟨rfl, hb4⟩; have HX4 := Lib.hid ((hb4.block w3.heap.size (by simp only [heap_len]; omega)).trans (heap_new w3 (.cells (nodeV x) 28) _ rfl)); have HB4 : Hid (Below (W.heap.size + 2) K0 w4) := Lib.hid ((HA.out _).trans (hb4.mono (by have := HB3.out.size; have := HS0.out; simp only [heap_len]; omega))); have t40 := cell_at (o := 0) (HF.out _ HB4.out).2.1 rfl; have t41 := cell_at (o := 1) (HF.out _ HB4.out).2.1 rfl; have HZ4 := Lib.hid (HF.out _ HB4.out).2.2; have z0 := cell_at (o := 0) HX4.out rfl; have z1 := cell_at (o := 1) HX4.out rfl; have z2 := cell_at (o := 2) HX4.out rfl; have z3 := cell_at (o := 3) HX4.out rfl; clear hb4)
                  | (refine wpl_store 24 ?_; intro ee he; refine wpList_store_row he _ _ _ ee (W.heap.size + 1) (keepV (.slice q ns.length c) nx) rfl rfl 24 (keepV (.slice none 0 0) 0) HZ4.out (tree_size _ _) rfl (tree_one _) ?_))
                refine bodyPost_ret (res_cell_tmp rfl rfl (row_same HZ4.out) (by kernel_rfl) (tree_size _ _)) rfl ?_
                exact renPost_mk _ _ ns rfl (NodesV.below HN.out (below_row (HF.out _ HB4.out).1 _ _ (by omega))) HRA.out (below_row (HF.out _ HB4.out).1 _ _ (by omega))
            · rw [e3] at HBE
              have HRA : Hid (RenAns ns fr tw 22 ns) := Lib.hid (HBAD.out 22 (HPRE.out.trans (if_pos (.inr (.inr e3)))) (by decide))
              clear e3 HPRE HBAD HMO HWO HFR HNEV HPA
              go_enter Tryz.func16, Tryz.ntmps16
              go_upto_region 1 with fail
              have HF : Hid (∀ w', Below (W.heap.size + 2) ((W.alloc (.cells (keepV (.slice q ns.length c) nx) 24)).alloc (.cells (keepV (.slice none 0 0) 0) 24)) w' → Below W.heap.size W w' ∧ w'.heap[W.heap.size]? = some (.cells (keepV (.slice q ns.length c) nx) 24) ∧ w'.heap[W.heap.size + 1]? = some (.cells (keepV (.slice none 0 0) 0) 24)) := Lib.hid (fun w' h => kept2 h)
              have HS0 : Hid (((W.alloc (.cells (keepV (.slice q ns.length c) nx) 24)).alloc (.cells (keepV (.slice none 0 0) 0) 24)).heap.size = W.heap.size + 2) := Lib.hid (by simp only [heap_len])
              generalize hK : ((W.alloc (.cells (keepV (.slice q ns.length c) nx) 24)).alloc (.cells (keepV (.slice none 0 0) 0) 24)) = K0 at HF HS0 ⊢
              have s0 := cell_at (o := 0) (HF.out K0 (Below.refl _ _)).2.1 rfl
              have s1 := cell_at (o := 1) (HF.out K0 (Below.refl _ _)).2.1 rfl
              have HZ0 := Lib.hid (HF.out K0 (Below.refl _ _)).2.2
              clear hK
              go_upto_region 4 with (first
                | (go_at_call 19; with_reducible refine (HPF.out _).mono ?_; rintro e w1 ⟨rfl, hw1⟩; obtain rfl := hw1.symm; rw [HFB.out])
                | (go_at_call 19; with_reducible refine (HPT.out _).mono ?_; rintro e w2 ⟨rfl, hw2⟩; obtain rfl := hw2.symm; rw [HTB.out])
                | (go_at_call 37; refine (HFI.out _ (HF.out _ (Below.refl _ _)).1).mono ?_; rintro e w3 ⟨rfl, hb3⟩; have HB3 : Hid (Below (W.heap.size + 2) K0 w3) := Lib.hid (hb3.mono (by rw [HS0.out]; exact Nat.le_refl _)); clear hb3))
              clear s0 s1 HZ0
              have HA : Hid (∀ o, Below (W.heap.size + 2) K0 (w3.alloc o)) := Lib.hid (fun o => HB3.out.alloc (by have := HB3.out.size; have := HS0.out; omega) _)
              have HAZ := Lib.hid (fun o => HF.out _ (HA.out o))
              have t0 := fun o => cell_at (o := 0) (HAZ.out o).2.1 rfl
              have t1 := fun o => cell_at (o := 1) (HAZ.out o).2.1 rfl
              have HZ := Lib.hid (HAZ.out (.cells (nodeV x) 28)).2.2
              go_wp2_with (first
                | (go_at_call 40; refine (HBE.out _).mono ?_; rintro e wb ⟨rfl, rfl⟩)
                | (refine wpl_store 24 ?_; intro ee he; refine wpList_store_row he _ _ _ ee (W.heap.size + 1) (keepV (.slice q ns.length c) nx) rfl rfl 24 (keepV (.slice none 0 0) 0) HZ.out (tree_size _ _) rfl (tree_one _) ?_))
              refine bodyPost_ret (res_cell_tmp rfl rfl (row_same HZ.out) (by kernel_rfl) (tree_size _ _)) rfl ?_
              exact renPost_mk _ _ ns rfl (NodesV.below HN.out (below_row (HAZ.out _).1 _ _ (by omega))) HRA.out (below_row (HAZ.out _).1 _ _ (by omega))
          · rw [e2] at h47t
            have HRA : Hid (RenAns ns fr tw 22 ns) := Lib.hid (HBAD.out 22 (HPRE.out.trans (if_pos (.inr (.inl (beq_iff_eq.1 e2))))) (by decide))
            clear e2 HPRE HBAD HMO HWO HFR HNEV HPA
            generalize belowQ tw fr = bq at HBE
            cases bq
            · go_enter Tryz.func16, Tryz.ntmps16
              go_upto_region 1 with fail
              have HF : Hid (∀ w', Below (W.heap.size + 2) ((W.alloc (.cells (keepV (.slice q ns.length c) nx) 24)).alloc (.cells (keepV (.slice none 0 0) 0) 24)) w' → Below W.heap.size W w' ∧ w'.heap[W.heap.size]? = some (.cells (keepV (.slice q ns.length c) nx) 24) ∧ w'.heap[W.heap.size + 1]? = some (.cells (keepV (.slice none 0 0) 0) 24)) := Lib.hid (fun w' h => kept2 h)
              have HS0 : Hid (((W.alloc (.cells (keepV (.slice q ns.length c) nx) 24)).alloc (.cells (keepV (.slice none 0 0) 0) 24)).heap.size = W.heap.size + 2) := Lib.hid (by simp only [heap_len])
              generalize hK : ((W.alloc (.cells (keepV (.slice q ns.length c) nx) 24)).alloc (.cells (keepV (.slice none 0 0) 0) 24)) = K0 at HF HS0 ⊢
              have s0 := cell_at (o := 0) (HF.out K0 (Below.refl _ _)).2.1 rfl
              have s1 := cell_at (o := 1) (HF.out K0 (Below.refl _ _)).2.1 rfl
              have HZ0 := Lib.hid (HF.out K0 (Below.refl _ _)).2.2
              clear hK
              go_upto_region 4 with (first
                | (go_at_call 19; with_reducible refine (HPF.out _).mono ?_; rintro e w1 ⟨rfl, hw1⟩; obtain rfl := hw1.symm; rw [HFB.out])
                | (go_at_call 19; with_reducible refine (HPT.out _).mono ?_; rintro e w2 ⟨rfl, hw2⟩; obtain rfl := hw2.symm; rw [HTB.out])
                | (go_at_call 37; refine (HFI.out _ (HF.out _ (Below.refl _ _)).1).mono ?_; rintro e w3 ⟨rfl, hb3⟩; have HB3 : Hid (Below (W.heap.size + 2) K0 w3) := Lib.hid (hb3.mono (by rw [HS0.out]; exact Nat.le_refl _)); clear hb3))
              clear s0 s1 HZ0
              have HA : Hid (∀ o, Below (W.heap.size + 2) K0 (w3.alloc o)) := Lib.hid (fun o => HB3.out.alloc (by have := HB3.out.size; have := HS0.out; omega) _)
              have HAZ := Lib.hid (fun o => HF.out _ (HA.out o))
              have t0 := fun o => cell_at (o := 0) (HAZ.out o).2.1 rfl
              have t1 := fun o => cell_at (o := 1) (HAZ.out o).2.1 rfl
              have HZ := Lib.hid (HAZ.out (.cells (nodeV x) 28)).2.2
              go_wp2_with (first
                | (go_at_call 40; refine (HBE.out _).mono ?_; rintro e wb ⟨rfl, rfl⟩)
                | (refine wpl_store 24 ?_; intro ee he; refine wpList_store_row he _ _ _ ee (W.heap.size + 1) (keepV (.slice q ns.length c) nx) rfl rfl 24 (keepV (.slice none 0 0) 0) HZ.out (tree_size _ _) rfl (tree_one _) ?_))
              refine bodyPost_ret (res_cell_tmp rfl rfl (row_same HZ.out) (by kernel_rfl) (tree_size _ _)) rfl ?_
              exact renPost_mk _ _ ns rfl (NodesV.below HN.out (below_row (HAZ.out _).1 _ _ (by omega))) HRA.out (below_row (HAZ.out _).1 _ _ (by omega))
            · go_enter Tryz.func16, Tryz.ntmps16
              go_upto_region 1 with fail
              have HF : Hid (∀ w', Below (W.heap.size + 2) ((W.alloc (.cells (keepV (.slice q ns.length c) nx) 24)).alloc (.cells (keepV (.slice none 0 0) 0) 24)) w' → Below W.heap.size W w' ∧ w'.heap[W.heap.size]? = some (.cells (keepV (.slice q ns.length c) nx) 24) ∧ w'.heap[W.heap.size + 1]? = some (.cells (keepV (.slice none 0 0) 0) 24)) := Lib.hid (fun w' h => kept2 h)
              have HS0 : Hid (((W.alloc (.cells (keepV (.slice q ns.length c) nx) 24)).alloc (.cells (keepV (.slice none 0 0) 0) 24)).heap.size = W.heap.size + 2) := Lib.hid (by simp only [heap_len])
              generalize hK : ((W.alloc (.cells (keepV (.slice q ns.length c) nx) 24)).alloc (.cells (keepV (.slice none 0 0) 0) 24)) = K0 at HF HS0 ⊢
              have s0 := cell_at (o := 0) (HF.out K0 (Below.refl _ _)).2.1 rfl
              have s1 := cell_at (o := 1) (HF.out K0 (Below.refl _ _)).2.1 rfl
              have HZ0 := Lib.hid (HF.out K0 (Below.refl _ _)).2.2
              clear hK
              go_upto_region 4 with (first
                | (go_at_call 19; with_reducible refine (HPF.out _).mono ?_; rintro e w1 ⟨rfl, hw1⟩; obtain rfl := hw1.symm; rw [HFB.out])
                | (go_at_call 19; with_reducible refine (HPT.out _).mono ?_; rintro e w2 ⟨rfl, hw2⟩; obtain rfl := hw2.symm; rw [HTB.out])
                | (go_at_call 37; refine (HFI.out _ (HF.out _ (Below.refl _ _)).1).mono ?_; rintro e w3 ⟨rfl, hb3⟩; have HB3 : Hid (Below (W.heap.size + 2) K0 w3) := Lib.hid (hb3.mono (by rw [HS0.out]; exact Nat.le_refl _)); clear hb3))
              clear s0 s1 HZ0
              have HA : Hid (∀ o, Below (W.heap.size + 2) K0 (w3.alloc o)) := Lib.hid (fun o => HB3.out.alloc (by have := HB3.out.size; have := HS0.out; omega) _)
              have HAZ := Lib.hid (fun o => HF.out _ (HA.out o))
              have t0 := fun o => cell_at (o := 0) (HAZ.out o).2.1 rfl
              have t1 := fun o => cell_at (o := 1) (HAZ.out o).2.1 rfl
              have HZ := Lib.hid (HAZ.out (.cells (nodeV x) 28)).2.2
              go_wp2_with (first
                | (go_at_call 40; refine (HBE.out _).mono ?_; rintro e wb ⟨rfl, rfl⟩)
                | (refine wpl_store 24 ?_; intro ee he; refine wpList_store_row he _ _ _ ee (W.heap.size + 1) (keepV (.slice q ns.length c) nx) rfl rfl 24 (keepV (.slice none 0 0) 0) HZ.out (tree_size _ _) rfl (tree_one _) ?_))
              refine bodyPost_ret (res_cell_tmp rfl rfl (row_same HZ.out) (by kernel_rfl) (tree_size _ _)) rfl ?_
              exact renPost_mk _ _ ns rfl (NodesV.below HN.out (below_row (HAZ.out _).1 _ _ (by omega))) HRA.out (below_row (HAZ.out _).1 _ _ (by omega))
        · rw [e1] at h47f
          have HRA : Hid (RenAns ns fr tw 22 ns) := Lib.hid (HBAD.out 22 (HPRE.out.trans (if_pos (.inl (beq_iff_eq.1 e1)))) (by decide))
          clear e1 HPRE HBAD HMO HWO HFR HNEV HPA
          go_enter Tryz.func16, Tryz.ntmps16
          go_upto_region 1 with fail
          have HF : Hid (∀ w', Below (W.heap.size + 2) ((W.alloc (.cells (keepV (.slice q ns.length c) nx) 24)).alloc (.cells (keepV (.slice none 0 0) 0) 24)) w' → Below W.heap.size W w' ∧ w'.heap[W.heap.size]? = some (.cells (keepV (.slice q ns.length c) nx) 24) ∧ w'.heap[W.heap.size + 1]? = some (.cells (keepV (.slice none 0 0) 0) 24)) := Lib.hid (fun w' h => kept2 h)
          have HS0 : Hid (((W.alloc (.cells (keepV (.slice q ns.length c) nx) 24)).alloc (.cells (keepV (.slice none 0 0) 0) 24)).heap.size = W.heap.size + 2) := Lib.hid (by simp only [heap_len])
          generalize hK : ((W.alloc (.cells (keepV (.slice q ns.length c) nx) 24)).alloc (.cells (keepV (.slice none 0 0) 0) 24)) = K0 at HF HS0 ⊢
          have s0 := cell_at (o := 0) (HF.out K0 (Below.refl _ _)).2.1 rfl
          have s1 := cell_at (o := 1) (HF.out K0 (Below.refl _ _)).2.1 rfl
          have HZ0 := Lib.hid (HF.out K0 (Below.refl _ _)).2.2
          clear hK
          go_upto_region 4 with (first
            | (go_at_call 19; with_reducible refine (HPF.out _).mono ?_; rintro e w1 ⟨rfl, hw1⟩; obtain rfl := hw1.symm; rw [HFB.out])
            | (go_at_call 19; with_reducible refine (HPT.out _).mono ?_; rintro e w2 ⟨rfl, hw2⟩; obtain rfl := hw2.symm; rw [HTB.out])
            | (go_at_call 37; refine (HFI.out _ (HF.out _ (Below.refl _ _)).1).mono ?_; rintro e w3 ⟨rfl, hb3⟩; have HB3 : Hid (Below (W.heap.size + 2) K0 w3) := Lib.hid (hb3.mono (by rw [HS0.out]; exact Nat.le_refl _)); clear hb3))
          clear s0 s1 HZ0
          have HA : Hid (∀ o, Below (W.heap.size + 2) K0 (w3.alloc o)) := Lib.hid (fun o => HB3.out.alloc (by have := HB3.out.size; have := HS0.out; omega) _)
          have HAZ := Lib.hid (fun o => HF.out _ (HA.out o))
          have t0 := fun o => cell_at (o := 0) (HAZ.out o).2.1 rfl
          have t1 := fun o => cell_at (o := 1) (HAZ.out o).2.1 rfl
          have HZ := Lib.hid (HAZ.out (.cells (nodeV x) 28)).2.2
          go_wp2_with (first
            | (go_at_call 40; refine (HBE.out _).mono ?_; rintro e wb ⟨rfl, rfl⟩)
            | (refine wpl_store 24 ?_; intro ee he; refine wpList_store_row he _ _ _ ee (W.heap.size + 1) (keepV (.slice q ns.length c) nx) rfl rfl 24 (keepV (.slice none 0 0) 0) HZ.out (tree_size _ _) rfl (tree_one _) ?_))
          refine bodyPost_ret (res_cell_tmp rfl rfl (row_same HZ.out) (by kernel_rfl) (tree_size _ _)) rfl ?_
          exact renPost_mk _ _ ns rfl (NodesV.below HN.out (below_row (HAZ.out _).1 _ _ (by omega))) HRA.out (below_row (HAZ.out _).1 _ _ (by omega))
      · have HRA : Hid (RenAns ns fr tw (findE ns fr) ns) := Lib.hid (HBAD.out _ (HPRE.out.trans (if_neg hfe)) hfe)
        clear HPRE HBAD HMO HWO HFR HNEV HPA
        generalize findE ns fr = fe at HFI hfe HRA
        go_enter Tryz.func16, Tryz.ntmps16
        go_upto_region 1 with fail
        have HF : Hid (∀ w', Below (W.heap.size + 2) ((W.alloc (.cells (keepV (.slice q ns.length c) nx) 24)).alloc (.cells (keepV (.slice none 0 0) 0) 24)) w' → Below W.heap.size W w' ∧ w'.heap[W.heap.size]? = some (.cells (keepV (.slice q ns.length c) nx) 24) ∧ w'.heap[W.heap.size + 1]? = some (.cells (keepV (.slice none 0 0) 0) 24)) := Lib.hid (fun w' h => kept2 h)
        have HS0 : Hid (((W.alloc (.cells (keepV (.slice q ns.length c) nx) 24)).alloc (.cells (keepV (.slice none 0 0) 0) 24)).heap.size = W.heap.size + 2) := Lib.hid (by simp only [heap_len])
        generalize hK : ((W.alloc (.cells (keepV (.slice q ns.length c) nx) 24)).alloc (.cells (keepV (.slice none 0 0) 0) 24)) = K0 at HF HS0 ⊢
        have s0 := cell_at (o := 0) (HF.out K0 (Below.refl _ _)).2.1 rfl
        have s1 := cell_at (o := 1) (HF.out K0 (Below.refl _ _)).2.1 rfl
        have HZ0 := Lib.hid (HF.out K0 (Below.refl _ _)).2.2
        clear hK
        go_upto_region 4 with (first
          | (go_at_call 19; with_reducible refine (HPF.out _).mono ?_; rintro e w1 ⟨rfl, hw1⟩; obtain rfl := hw1.symm; rw [HFB.out])
          | (go_at_call 19; with_reducible refine (HPT.out _).mono ?_; rintro e w2 ⟨rfl, hw2⟩; obtain rfl := hw2.symm; rw [HTB.out])
          | (go_at_call 37; refine (HFI.out _ (HF.out _ (Below.refl _ _)).1).mono ?_; rintro e w3 ⟨rfl, hb3⟩; have HB3 : Hid (Below (W.heap.size + 2) K0 w3) := Lib.hid (hb3.mono (by rw [HS0.out]; exact Nat.le_refl _)); clear hb3))
        clear s0 s1 HZ0
        have HA : Hid (∀ o, Below (W.heap.size + 2) K0 (w3.alloc o)) := Lib.hid (fun o => HB3.out.alloc (by have := HB3.out.size; have := HS0.out; omega) _)
        have HAZ := Lib.hid (fun o => HF.out _ (HA.out o))
        have t0 := fun o => cell_at (o := 0) (HAZ.out o).2.1 rfl
        have t1 := fun o => cell_at (o := 1) (HAZ.out o).2.1 rfl
        have HZ := Lib.hid (HAZ.out (.cells (nodeV x) 28)).2.2
        go_wp2_with (first
          | (go_at_call 40; refine (HBE.out _).mono ?_; rintro e wb ⟨rfl, rfl⟩)
          | (refine wpl_store 24 ?_; intro ee he; refine wpList_store_row he _ _ _ ee (W.heap.size + 1) (keepV (.slice q ns.length c) nx) rfl rfl 24 (keepV (.slice none 0 0) 0) HZ.out (tree_size _ _) rfl (tree_one _) ?_))
        refine bodyPost_ret (res_cell_tmp rfl rfl (row_same HZ.out) (by kernel_rfl) (tree_size _ _)) rfl ?_
        exact renPost_mk _ _ ns rfl (NodesV.below HN.out (below_row (HAZ.out _).1 _ _ (by omega))) HRA.out (below_row (HAZ.out _).1 _ _ (by omega))
end Go.Proofs.YtlpgandflkabcaaGreatDoor
namespace Go.Proofs.YtlpgandflkabcaaGreatDoor
open Go Go.RowKit Go.Shelf
set_option linter.unusedVariables false
set_option linter.unusedSimpArgs false

theorem slash_least {p : List UInt8} (h : pathB p = true) : ¬ p < [47] := by
  have hh : p.head? = some 47 := by
    unfold pathB at h
    rcases Bool.or_eq_true .. ▸ h with h | h
    · rw [beq_iff_eq.1 h]; rfl
    · simp only [Bool.and_eq_true, beq_iff_eq] at h
      exact h.1.2
  cases p with
  | nil => cases hh
  | cons a r =>
    obtain rfl : a = 47 := by simpa using hh
    intro hc
    rcases List.cons_lt_cons_iff.1 hc with h1 | ⟨_, h1⟩
    · exact absurd h1 (UInt8.lt_irrefl _)
    · exact absurd h1 (List.not_lt_nil _)
/-- What makes a tree fit, by its nodes. -/
structure FitM (l : List NodeD) (nx : Int) (x : NodeD) : Prop where
  path : pathB x.path = true
  data : x.data.length ≤ 32768
  empty : x.dir = true → x.data = []
  low : 0 ≤ x.id
  high : x.id < nx
  home : ∃ y ∈ l, y.path = dirP x.path ∧ y.dir = true
theorem fit_of {l : List NodeD} {nx : Int} (hr : RiseS l) (h40 : l.length ≤ 40) (hnx : nx ≤ 1048576) (hroot : ∃ x ∈ l, x.path = [47] ∧ x.dir = true) (hall : ∀ x ∈ l, FitM l nx x) (hid : l.Pairwise fun a b => a.id ≠ b.id) : FitT l nx := by
  have hpw := List.pairwise_iff_getElem.1 hr
  have hpi := List.pairwise_iff_getElem.1 hid
  obtain ⟨x, hx, hxp, hxd⟩ := hroot
  obtain ⟨k, hk, rfl⟩ := List.getElem_of_mem hx
  obtain rfl : k = 0 := by
    rcases Nat.eq_zero_or_pos k with h | h
    · exact h
    · have := hpw 0 k (by omega) hk h
      rw [hxp] at this
      exact absurd this (slash_least (hall _ (List.getElem_mem _)).path)
  refine ⟨hk, h40, hnx, hxp, hxd, fun i hi => ?_⟩
  obtain ⟨h1, h2, h3, h4, h5, y, hy, hyp, hyd⟩ := hall _ (List.getElem_mem hi)
  obtain ⟨j, hj, rfl⟩ := List.getElem_of_mem hy
  refine ⟨h1, fun q hq => hpw q i (by omega) hi (by omega), h2, h3, h4, h5, ⟨j, hj, placeS_at hj (fun m hm hmj => ?_) hyp, hyd⟩, fun j hj => hpi j i (by omega) hi hj⟩
  intro e
  have := hpw m j hm (by omega) hmj
  rw [e, hyp] at this
  exact ltS_irrefl _ this
theorem fit_m {ns : List NodeD} {nx : Int} (h : FitT ns nx) {x : NodeD} (hx : x ∈ ns) : FitM ns nx x := by
  obtain ⟨M, hM, hxp, _⟩ := node_parts h hx
  obtain ⟨i, hi, rfl⟩ := List.getElem_of_mem hx
  obtain ⟨j, hj, hjp, hjd⟩ := fit_home h hi hM hxp
  have := h.all i hi
  exact ⟨this.path, this.data, this.empty, this.low, this.high, ns[j], List.getElem_mem hj, by rw [dirP, hxp, parts_rootL hM, hjp], hjd⟩
theorem fit_ids {ns : List NodeD} {nx : Int} (h : FitT ns nx) : ns.Pairwise fun a b => a.id ≠ b.id :=
  List.pairwise_iff_getElem.2 fun i j hi hj hij => (h.all j hj).fresh i hij
theorem fit_root {ns : List NodeD} {nx : Int} (h : FitT ns nx) : ∃ x ∈ ns, x.path = [47] ∧ x.dir = true := ⟨ns[0]'h.one, List.getElem_mem _, h.root, h.dir⟩
theorem make_fit {ns : List NodeD} {nx : Int} (hfit : FitT ns nx) (p : List UInt8) (dir : Bool) : FitT (makeL ns nx p dir) (if makeE ns nx p = 0 then nx + 1 else nx) := by
  have hr := fit_riseS hfit
  unfold makeL
  split
  · rename_i h
    have hpb : pathB p = true ∧ hasS ns p = false ∧ parentE ns p = 0 ∧ ns.length < 40 ∧ nx < 1048576 := by
      unfold makeE at h
      split at h
      · rename_i hp
        split at h
        · cases h
        · rename_i hh
          split at h
          · rename_i hpe
            split at h
            · cases h
            · rename_i hc
              exact ⟨hp, by simpa using hh, hpe, by omega, by omega⟩
          · rename_i hpe; exact absurd h hpe
      · cases h
    obtain ⟨hp, hno, hpe, h40, hnx⟩ := hpb
    obtain ⟨k, hk, hkp, hkd⟩ := parentE_zero hr hpe
    have hnx0 : 0 ≤ nx := by have := (hfit.all 0 hfit.one).low; have := (hfit.all 0 hfit.one).high; omega
    refine fit_of (withN_rise hr _ hno) (by rw [withN_len]; omega) (by omega) ?_ ?_ ?_
    · obtain ⟨x, hx, h1, h2⟩ := fit_root hfit
      exact ⟨x, withN_sub.2 (.inr hx), h1, h2⟩
    · intro x hx
      rcases withN_sub.1 hx with rfl | hx
      · exact ⟨hp, by show 0 ≤ 32768; decide, fun _ => rfl, hnx0, by show nx < nx + 1; omega, ns[k], withN_sub.2 (.inr (List.getElem_mem hk)), hkp, hkd⟩
      · obtain ⟨h1, h2, h3, h4, h5, y, hy, h6, h7⟩ := fit_m hfit hx
        exact ⟨h1, h2, h3, h4, by omega, y, withN_sub.2 (.inr hy), h6, h7⟩
    · have hpm : (withN ns ⟨p, dir, [], nx⟩).Perm (⟨p, dir, [], nx⟩ :: ns) := by
        unfold withN
        have := @List.perm_middle _ (⟨p, dir, [], nx⟩ : NodeD) (ns.take (lowS ns p)) (ns.drop (lowS ns p))
        rw [List.take_append_drop] at this
        exact this
      refine (hpm.pairwise_iff (fun h => h.symm)).2 (List.pairwise_cons.2 ⟨fun y hy => ?_, fit_ids hfit⟩)
      have := (fit_m hfit hy).high
      show nx ≠ y.id
      omega
  · exact hfit
theorem remove_fit {ns : List NodeD} {nx : Int} (hfit : FitT ns nx) (p : List UInt8) (dir : Bool) : FitT (removeL ns p dir) nx := by
  have hr := fit_riseS hfit
  unfold removeL
  split
  · rename_i h
    have hpb : findE ns p = 0 ∧ p ≠ [47] ∧ filledN ns p = false := by
      unfold removeE at h
      split at h
      · rename_i hf
        split at h
        · cases h
        · split at h
          · cases h
          · split at h
            · cases h
            · rename_i h47
              split at h
              · cases h
              · rename_i hfl
                exact ⟨hf, h47, by simpa using hfl⟩
      · rename_i hf; exact absurd h hf
    obtain ⟨hf, h47, hfl⟩ := hpb
    obtain ⟨hp, _⟩ := findE_zero hr hf
    obtain ⟨P, hP, hpe, _⟩ := path_parts hp
    have hP0 : P ≠ [] := fun e => h47 (by rw [hpe]; exact (rootL_slash hP).2 e)
    refine fit_of (dropN_rise hr p) (Nat.le_trans (List.length_filter_le _ _) hfit.forty) hfit.next ?_ ?_ (List.Pairwise.filter _ (fit_ids hfit))
    · obtain ⟨x, hx, h1, h2⟩ := fit_root hfit
      exact ⟨x, dropN_mem.2 ⟨hx, fun e => h47 (by rw [← e]; exact h1)⟩, h1, h2⟩
    · intro x hx
      obtain ⟨hx, hxp⟩ := dropN_mem.1 hx
      obtain ⟨h1, h2, h3, h4, h5, y, hy, h6, h7⟩ := fit_m hfit hx
      refine ⟨h1, h2, h3, h4, h5, y, dropN_mem.2 ⟨hy, fun e => ?_⟩, h6, h7⟩
      obtain ⟨M, hM, hxM, _⟩ := node_parts hfit hx
      have hd : Names M.dropLast := names_pre (List.dropLast_prefix M) hM
      have hPM : P = M.dropLast := by
        rw [h6, dirP, hxM, parts_rootL hM, hpe] at e
        have := congrArg partsB e
        rw [parts_rootL hd, parts_rootL hP] at this
        exact this.symm
      have hb : belowQ x.path p = true := by
        rw [hxM, hpe]
        refine (below_parts hP hM).2 ⟨by rw [hPM]; exact List.dropLast_prefix M, fun e2 => hxp ?_⟩
        rw [hxM, hpe, e2]
      have := List.any_eq_false.1 hfl x hx
      exact this hb
  · exact hfit
theorem ren_fit {ns : List NodeD} {nx : Int} (hfit : FitT ns nx) {fr tw : List UInt8} {E : Int} {l : List NodeD} (h : RenAns ns fr tw E l) : FitT l nx := by
  rcases h with ⟨_, _, rfl⟩ | ⟨_, _, _, rfl⟩ | ⟨_, _, _, _, rfl⟩ | ⟨hpre, hne, hlong, _, hp, hs⟩
  · exact hfit
  · exact hfit
  · exact hfit
  obtain ⟨F, T, rfl, rfl, hR⟩ := ren_ok hfit hpre hne
  have hrl := ren_rise hR hp hs
  have hkeep : ∀ {y : NodeD} {M : List (List UInt8)}, y ∈ ns → Names M → y.path = rootL M → M ≠ T → ¬ F <+: M → y ∈ l := fun {y M} hy hM hyp hMT hFM =>
    (ren_mem hp).2 ⟨y, ⟨hy, fun e => hMT (by
      rw [hyp] at e
      have := congrArg partsB e
      rwa [parts_rootL hM, parts_rootL hR.namesT] at this)⟩, mvN_no hR.namesF hM hyp hFM⟩
  have hmv : ∀ x : NodeD, (mvN (rootL F) (rootL T) x).id = x.id ∧ (mvN (rootL F) (rootL T) x).data = x.data ∧ (mvN (rootL F) (rootL T) x).dir = x.dir := fun x => by
    unfold mvN
    split
    · exact ⟨rfl, rfl, rfl⟩
    · exact ⟨rfl, rfl, rfl⟩
  have hl255 : ∀ y ∈ l, y.path.length ≤ 255 := fun y hy => by
    obtain ⟨x, hx, rfl⟩ := List.mem_map.1 (hp.mem_iff.1 hy)
    obtain ⟨j, hj, rfl⟩ := List.getElem_of_mem hx
    apply Classical.byContradiction
    intro hc
    exact hlong ⟨j, hj, by omega⟩
  refine fit_of hrl ?_ hfit.next ?_ ?_ ?_
  · rw [hp.length_eq, List.length_map]
    exact Nat.le_trans (List.length_filter_le _ _) hfit.forty
  · obtain ⟨x, hx, h1, h2⟩ := fit_root hfit
    refine ⟨x, hkeep (M := []) hx (fun _ h => by cases h) (by rw [h1]; rfl) (fun e => hR.T0 e.symm) (fun e => hR.F0 (List.prefix_nil.1 e)), h1, h2⟩
  · intro y hy
    have hyl := hl255 y hy
    obtain ⟨x, ⟨hx, hxp⟩, rfl⟩ := (ren_mem hp).1 hy
    obtain ⟨g1, g2, g3⟩ := hmv x
    obtain ⟨h1, h2, h3, h4, h5, z, hz, hzp, hzd⟩ := fit_m hfit hx
    obtain ⟨M, hM, hxM, hc⟩ := ren_node hR hx
    have hdM : Names M.dropLast := names_pre (List.dropLast_prefix M) hM
    rw [dirP, hxM, parts_rootL hM] at hzp
    suffices hh : pathB (mvN (rootL F) (rootL T) x).path = true ∧ ∃ y ∈ l, y.path = dirP (mvN (rootL F) (rootL T) x).path ∧ y.dir = true from
      ⟨hh.1, by rw [g2]; exact h2, fun e => by rw [g2]; exact h3 (by rw [← g3]; exact e), by rw [g1]; exact h4, by rw [g1]; exact h5, hh.2⟩
    rcases hc with ⟨R, rfl, hTR, e⟩ | ⟨hn, e⟩
    · rw [e] at hyl ⊢
      refine ⟨ren_path hTR hyl, ?_⟩
      show ∃ y ∈ l, y.path = dirP (rootL (T ++ R)) ∧ y.dir = true
      rw [dirP, parts_rootL hTR]
      rcases List.eq_nil_or_concat R with rfl | ⟨R0, r, rfl⟩
      · obtain ⟨j, hj, hjp, hjd⟩ := hR.home
        have hdT : Names T.dropLast := names_pre (List.dropLast_prefix T) hR.namesT
        refine ⟨ns[j], hkeep (List.getElem_mem hj) hdT hjp (fun e => ?_) (fun e => hR.apart (e.trans (List.dropLast_prefix T))), by rw [List.append_nil]; exact hjp, hjd⟩
        have := congrArg List.length e
        rw [List.length_dropLast] at this
        have := List.length_pos_iff.2 hR.T0
        omega
      · have hdl : ∀ L : List (List UInt8), (L ++ R0.concat r).dropLast = L ++ R0 := fun L => by
          rw [List.concat_eq_append, ← List.append_assoc, List.dropLast_concat]
        rw [hdl] at hzp ⊢
        have hFR : Names (F ++ R0) := by rw [← hdl]; exact hdM
        refine ⟨mvN (rootL F) (rootL T) z, (ren_mem hp).2 ⟨z, ⟨hz, fun e2 => ?_⟩, rfl⟩, ?_, by rw [(hmv z).2.2]; exact hzd⟩
        · rw [hzp] at e2
          have := congrArg partsB e2
          rw [parts_rootL hFR, parts_rootL hR.namesT] at this
          exact hR.apart (by rw [← this]; exact List.prefix_append _ _)
        · rw [mvN_go hR.F0 hR.T0 hFR hzp]
    · rw [e]
      refine ⟨h1, z, hkeep hz hdM hzp (fun e2 => ?_) (fun e2 => hn (e2.trans (List.dropLast_prefix M))), by rw [dirP, hxM, parts_rootL hM]; exact hzp, hzd⟩
      have := hR.free x hx M hM hxM (by rw [← e2]; exact List.dropLast_prefix M)
      subst this
      have h9 := congrArg List.length e2
      rw [List.length_dropLast] at h9
      have := List.length_pos_iff.2 hR.T0
      omega
  · refine (hp.pairwise_iff (fun h => h.symm)).2 ?_
    rw [List.pairwise_map]
    refine List.Pairwise.imp (fun h => ?_) (List.Pairwise.filter _ (fit_ids hfit))
    rw [(hmv _).1, (hmv _).1]
    exact h
/-- The same answer on both sides. -/
theorem ren_same {ns : List NodeD} {nx : Int} (hfit : FitT ns nx) {fr tw : List UInt8} {E E2 : Int} {l l2 : List NodeD} (h : RenAns ns fr tw E l) (h2 : RenAns ns fr tw E2 l2) : E = E2 ∧ l = l2 := by
  rcases h with ⟨a1, rfl, rfl⟩ | ⟨a1, a2, rfl, rfl⟩ | ⟨a1, a2, a3, rfl, rfl⟩ | ⟨a1, a2, a3, rfl, a4, a5⟩
  · rcases h2 with ⟨b1, rfl, rfl⟩ | ⟨b1, b2, rfl, rfl⟩ | ⟨b1, b2, b3, rfl, rfl⟩ | ⟨b1, b2, b3, rfl, b4, b5⟩
    · exact ⟨rfl, rfl⟩
    · exact absurd b1 a1
    · exact absurd b1 a1
    · exact absurd b1 a1
  · rcases h2 with ⟨b1, rfl, rfl⟩ | ⟨b1, b2, rfl, rfl⟩ | ⟨b1, b2, b3, rfl, rfl⟩ | ⟨b1, b2, b3, rfl, b4, b5⟩
    · exact absurd a1 b1
    · exact ⟨rfl, rfl⟩
    · exact absurd a2 b2
    · exact absurd a2 b2
  · rcases h2 with ⟨b1, rfl, rfl⟩ | ⟨b1, b2, rfl, rfl⟩ | ⟨b1, b2, b3, rfl, rfl⟩ | ⟨b1, b2, b3, rfl, b4, b5⟩
    · exact absurd a1 b1
    · exact absurd b2 a2
    · exact ⟨rfl, rfl⟩
    · exact absurd a3 b3
  · rcases h2 with ⟨b1, rfl, rfl⟩ | ⟨b1, b2, rfl, rfl⟩ | ⟨b1, b2, b3, rfl, rfl⟩ | ⟨b1, b2, b3, rfl, b4, b5⟩
    · exact absurd a1 b1
    · exact absurd b2 a2
    · exact absurd b3 a3
    · obtain ⟨F, T, rfl, rfl, hR⟩ := ren_ok hfit a1 a2
      exact ⟨rfl, rise_perm (ren_rise hR a4 a5) (ren_rise hR b4 b5) (a4.trans b4.symm)⟩
/-- A file with other bytes. -/
def isF (i : Int) (x : NodeD) : Bool := x.id == i && !x.dir
def putN (i : Int) (d : List UInt8) (x : NodeD) : NodeD := if isF i x = true then { x with data := d } else x
def putE (ns : List NodeD) (i : Int) (d : List UInt8) : Int := if (ns.any (isF i)) = true then (if 32768 < d.length then 28 else 0) else 2
def putL (ns : List NodeD) (i : Int) (d : List UInt8) : List NodeD := if putE ns i d = 0 then ns.map (putN i d) else ns
theorem putN_path (i : Int) (d : List UInt8) (x : NodeD) : (putN i d x).path = x.path ∧ (putN i d x).dir = x.dir ∧ (putN i d x).id = x.id := by
  unfold putN
  split
  · exact ⟨rfl, rfl, rfl⟩
  · exact ⟨rfl, rfl, rfl⟩
theorem put_fit {ns : List NodeD} {nx : Int} (hfit : FitT ns nx) (i : Int) (d : List UInt8) : FitT (putL ns i d) nx := by
  have hr := fit_riseS hfit
  unfold putL
  split
  · rename_i h
    have hd : d.length ≤ 32768 := by
      unfold putE at h
      split at h
      · split at h
        · cases h
        · omega
      · cases h
    refine fit_of ?_ (by rw [List.length_map]; exact hfit.forty) hfit.next ?_ ?_ ?_
    · rw [RiseS, List.pairwise_map]
      exact List.Pairwise.imp (fun h => by rw [(putN_path i d _).1, (putN_path i d _).1]; exact h) hr
    · obtain ⟨x, hx, h1, h2⟩ := fit_root hfit
      exact ⟨putN i d x, List.mem_map.2 ⟨x, hx, rfl⟩, by rw [(putN_path i d x).1]; exact h1, by rw [(putN_path i d x).2.1]; exact h2⟩
    · intro y hy
      obtain ⟨x, hx, rfl⟩ := List.mem_map.1 hy
      obtain ⟨h1, h2, h3, h4, h5, z, hz, h6, h7⟩ := fit_m hfit hx
      obtain ⟨g1, g2, g3⟩ := putN_path i d x
      refine ⟨by rw [g1]; exact h1, ?_, ?_, by rw [g3]; exact h4, by rw [g3]; exact h5, putN i d z, List.mem_map.2 ⟨z, hz, rfl⟩, by rw [g1, (putN_path i d z).1]; exact h6, by rw [(putN_path i d z).2.1]; exact h7⟩
      · unfold putN
        split
        · exact hd
        · exact h2
      · intro e
        rw [g2] at e
        unfold putN
        rw [if_neg (by simp [isF, e])]
        exact h3 e
    · rw [List.pairwise_map]
      exact List.Pairwise.imp (fun h => by rw [(putN_path i d _).2.2, (putN_path i d _).2.2]; exact h) (fit_ids hfit)
  · exact hfit
end Go.Proofs.YtlpgandflkabcaaGreatDoor
namespace Go.Proofs.YtlpgandflkabcaaGreatDoor
open Go Go.RowKit Go.Shelf
set_option linter.unusedVariables false
set_option linter.unusedSimpArgs false

theorem put1_any (x : NodeD) (z : Int) (b : Nat) (w : World) (hb : w.cell? ⟨b, 0, none⟩ = some (.int .i64 z)) (hbl : b < w.heap.size) :
    Calls Tryz.prog 44 #[.agg (nodeV x), .pointer (some ⟨b, 0, none⟩)] w fun e w' => e = .returned (.bool (isF z x)) ∧ Below w.heap.size w w' := by
  have hbn : b ≠ w.heap.size := Nat.ne_of_lt hbl
  obtain ⟨xp, xd, xq, xi⟩ := x
  have HI : Hid (isF z ⟨xp, xd, xq, xi⟩ = ((xi == z) && !xd)) := Lib.hid rfl
  generalize isF z ⟨xp, xd, xq, xi⟩ = r at HI ⊢
  cases h1 : (xi == z)
  · rw [h1] at HI
    go_enter Tryz.func44, Tryz.ntmps44
    go_wp2
    go_ret
    exact ⟨by rw [HI.out]; rfl, (Below.refl _ _).alloc (Nat.le_refl _) _⟩
  · rw [h1] at HI
    cases xd
    · go_enter Tryz.func44, Tryz.ntmps44
      go_wp2
      go_ret
      exact ⟨by rw [HI.out]; rfl, (Below.refl _ _).alloc (Nat.le_refl _) _⟩
    · go_enter Tryz.func44, Tryz.ntmps44
      go_wp2
      go_ret
      exact ⟨by rw [HI.out]; rfl, (Below.refl _ _).alloc (Nat.le_refl _) _⟩
set_option maxHeartbeats 2000000 in
set_option maxRecDepth 100000 in
theorem indexP_any (ns : List NodeD) (hlen : ns.length ≤ 1000000) (z : Int) (b : Nat) (v : Value) (w : World) (hN : NodesV w v ns) (hcell : w.cell? ⟨b, 0, none⟩ = some (.int .i64 z)) (hbl : b < w.heap.size) :
    Calls Tryz.prog 43 #[v, .func (.func 44) #[] #[.pointer (some ⟨b, 0, none⟩)]] w fun e w' => (∃ i : Int, e = .returned (.int .i64 i) ∧ ((i = -1 ∧ ∀ j (hj : j < ns.length), (isF z ns[j]) = false) ∨ ∃ k, ∃ hk : k < ns.length, i = k ∧ (isF z ns[k]) = true ∧ ∀ j (hj : j < ns.length), j < k → (isF z ns[j]) = false)) ∧ Below w.heap.size w w' := by
  have hli : (ns.length : Int) ≤ 1000000 := by omega
  obtain ⟨q, c, rfl, hN0⟩ := hN
  have HC : Hid (∀ (x : NodeD) (w' : World), Below w.heap.size w w' → Calls Tryz.prog 44 #[.agg (nodeV x), .pointer (some ⟨b, 0, none⟩)] w' fun e w2 => e = .returned (.bool (isF z x)) ∧ Below w'.heap.size w' w2) := Lib.hid (fun x w' h => put1_any x z b w' ((h.cell (p := ⟨b, 0, none⟩) hbl).trans hcell) (Nat.lt_of_lt_of_le hbl h.size))
  have HN2 : Hid (NodesV w (.slice q ns.length c) ns) := Lib.hid ⟨q, c, rfl, hN0⟩
  clear hcell hN0 hlen
  go_enter Tryz.func43, Tryz.ntmps43
  go_wp2
  go_loopw [8] (fun iv wr => ∃ k : Nat, k ≤ ns.length ∧ iv = .int .i64 k ∧ Hid (Below w.heap.size w wr) ∧ Hid (∀ j (hj : j < ns.length), j < k → (isF z ns[j]) = false)) (fun iv wr => ns.length - (intOf iv).toNat)
  case atStart => exact ⟨0, Nat.zero_le _, rfl, Lib.hid (Below.refl _ _), Lib.hid (fun j _ h => absurd h (Nat.not_lt_zero _))⟩
  case round =>
    obtain ⟨k, hk, rfl, HB, HK⟩ := hrel
    by_cases hlt : k < ns.length
    · obtain ⟨q2, c2', hv, hrw⟩ := HN2.out
      cases hv
      obtain ⟨bb, off, rfl, hrow⟩ := hrw (nonil hlt)
      have hrow2 := hrow.below HB.out
      have c0 := hrow2.c0 k hlt
      have c1 := hrow2.c1 k hlt
      have c2 := hrow2.c2 k hlt
      have c3 := hrow2.c3 k hlt
      have HCK := Lib.hid (HC.out ns[k] wr HB.out)
      clear hrow hrow2 hrw
      cases hn : (isF z ns[k])
      · have HNK := Lib.hid hn
        clear hn
        go_wp2_with (go_at_call 44; (with_reducible refine HCK.out.mono ?_); rintro e w2 ⟨rfl, hb2⟩; rw [HNK.out]; have HB2 := Lib.hid (HB.out.trans (hb2.mono HB.out.size)); clear hb2)
        go_roundw
        case rel => exact ⟨k + 1, by omega, by go_num, HB2, Lib.hid (fun j hj hjk => by
          rcases Nat.lt_or_eq_of_le (Nat.le_of_lt_succ hjk) with h | rfl
          · exact HK.out j hj h
          · exact HNK.out)⟩
        case measure => simp [intOf]; omega
      · have HNK := Lib.hid hn
        clear hn
        go_wp2_with (go_at_call 44; (with_reducible refine HCK.out.mono ?_); rintro e w2 ⟨rfl, hb2⟩; rw [HNK.out]; have HB2 := Lib.hid (HB.out.trans (hb2.mono HB.out.size)); clear hb2)
        go_ret
        exact ⟨⟨_, rfl, .inr ⟨k, hlt, rfl, HNK.out, HK.out⟩⟩, HB2.out⟩
    · obtain rfl : k = ns.length := by omega
      go_wp2
      go_ret
      exact ⟨⟨_, rfl, .inl ⟨rfl, fun j hj => HK.out j hj hj⟩⟩, HB.out⟩
/-- Bytes stored over other ones. -/
theorem nodeVs_data (s : List UInt8) : ∀ (R : List NodeD) (i : Nat) (h : i < R.length), nodeVs (R.set i { R[i] with data := s }) = (nodeVs R).set (i * 4 + 2) (.string (mkB s))
  | c :: l, 0, _ => rfl
  | c :: l, i + 1, h => by
    have := nodeVs_data s l i (by simpa using h)
    rw [List.set_cons_succ, nodeVs_cons, nodeVs_cons, List.getElem_cons_succ, this, show (i + 1) * 4 + 2 = i * 4 + 2 + 1 + 1 + 1 + 1 by omega]
    rfl
theorem own_setData {w : World} {B g n cap i : Nat} {R : List NodeD} (s : List UInt8) (hR : R.length = n) (hi : i < R.length) (h : w.ownsRow B 28 4 (.slice (some ⟨g, 0, none⟩) n cap) n (nodeVs R)) :
    (∃ u, w.cell? ⟨g, i * 4 + 2, none⟩ = some u) ∧ w.frozen? ⟨g, i * 4 + 2, none⟩ = false ∧ (w.setCell ⟨g, i * 4 + 2, none⟩ (.string (mkB s))).ownsRow B 28 4 (.slice (some ⟨g, 0, none⟩) n cap) n (nodeVs (R.set i { R[i] with data := s })) := by
  rcases h.2 with ⟨hv, _⟩ | ⟨g', cap', cur, hv, hB, hg, hn, hm, hs, ht⟩
  · cases hv
  cases hv
  refine ⟨⟨_, cell_at hg (Array.getElem?_eq_getElem (by omega))⟩, free_at hg, ?_, .inr ⟨g, cap, _, rfl, hB, heap_set hg, hn, hm, by simp only [Array.size_setIfInBounds]; exact hs, ?_⟩⟩
  · rw [nodeVs_len, List.length_set, hR]
  · rw [nodeVs_data, ← ht]
    simp only [Array.toList_setIfInBounds, List.take_set]
theorem put_one {ns : List NodeD} (hid : ns.Pairwise fun a b => a.id ≠ b.id) {z : Int} {d : List UInt8} {k : Nat} (hk : k < ns.length) (h : isF z ns[k] = true) : ns.map (putN z d) = ns.set k { ns[k] with data := d } := by
  have hpi := List.pairwise_iff_getElem.1 hid
  have hz : ∀ x : NodeD, isF z x = true → x.id = z := fun x hx => by
    unfold isF at hx
    simp only [Bool.and_eq_true, beq_iff_eq] at hx
    exact hx.1
  refine List.ext_getElem (by rw [List.length_map, List.length_set]) (fun m h1 h2 => ?_)
  rw [List.length_map] at h1
  rw [List.getElem_map, List.getElem_set]
  split
  · rename_i e
    subst e
    rw [putN, if_pos h]
  · rename_i e
    rw [putN, if_neg]
    intro hm
    rcases Nat.lt_or_gt_of_ne e with h3 | h3
    · exact hpi k m hk h1 h3 (by rw [hz _ h, hz _ hm])
    · exact hpi m k h1 hk h3 (by rw [hz _ h, hz _ hm])
theorem kept3b {W w' : World} {a b c : Obj} (h : Below (W.heap.size + 3) (((W.alloc a).alloc b).alloc c) w') : Below W.heap.size W w' ∧ w'.heap[W.heap.size]? = some a ∧ w'.heap[W.heap.size + 1]? = some b ∧ w'.heap[W.heap.size + 2]? = some c := by
  have h1 : (W.alloc a).heap.size = W.heap.size + 1 := heap_len _ _
  have h2 : ((W.alloc a).alloc b).heap.size = W.heap.size + 2 := by rw [heap_len, h1]
  refine ⟨((((Below.refl W.heap.size W).alloc (Nat.le_refl _) a).alloc (by omega) b).alloc (by omega) c).trans (h.mono (by omega)), ?_, ?_, ?_⟩
  · rw [h.block _ (by omega), heap_old _ _ _ (by omega), heap_old _ _ _ (by omega)]; exact heap_new _ _ _ rfl
  · rw [h.block _ (by omega), heap_old _ _ _ (by omega)]; exact heap_new _ _ _ h1.symm
  · rw [h.block _ (by omega)]; exact heap_new _ _ _ h2.symm
set_option maxRecDepth 100000 in
set_option maxHeartbeats 8000000 in
theorem put_any (ns : List NodeD) (hid : ns.Pairwise fun a b => a.id ≠ b.id) (hlen : ns.length ≤ 1000) (z : Int) (d : List UInt8) (hdl : d.length ≤ 100000) (v : Value) (nx : Int) (W : World) (hN : NodesV W v ns) :
    Calls Tryz.prog 17 #[.agg (keepV v nx), .int .i64 z, .string (mkB d)] W fun e w' => ∃ v', e = .returned (.tuple #[.agg (keepV v' nx), .int .i64 (putE ns z d)]) ∧ NodesV w' v' (putL ns z d) ∧ Below W.heap.size W w' := by
  have hmf : ∀ (fn : Fn) (first cap : Array Value) (w : World), (Instr.makeFunc fn first cap).run Tryz.prog w = .ok (.func fn first cap) w := fun _ _ _ _ => rfl
  obtain ⟨q, c, rfl, hN0⟩ := hN
  have hN : NodesV W (.slice q ns.length c) ns := ⟨q, c, rfl, hN0⟩
  clear hN0
  have HN := Lib.hid hN
  have HCL : Hid (∀ W', Below W.heap.size W W' → Calls Tryz.prog 45 #[.slice q ns.length c] W' fun e w' => ∃ v', e = .returned v' ∧ w'.ownsRow W'.heap.size 28 4 v' ns.length (nodeVs ns) ∧ Below W'.heap.size W' w') := Lib.hid (fun W' hb => cloneN_any ns (by omega) _ W' (hN.below hb))
  have HIX : Hid (∀ W', Below W.heap.size W W' → W'.heap[W.heap.size + 1]? = some (.cells #[.int .i64 z] 3) → Calls Tryz.prog 43 #[.slice q ns.length c, .func (.func 44) #[] #[.pointer (some ⟨W.heap.size + 1, 0, none⟩)]] W' fun e w' => (∃ i : Int, e = .returned (.int .i64 i) ∧ ((i = -1 ∧ ∀ j (hj : j < ns.length), isF z ns[j] = false) ∨ ∃ k, ∃ hk : k < ns.length, i = (k : Int) ∧ isF z ns[k] = true ∧ ∀ j (hj : j < ns.length), j < k → isF z ns[j] = false)) ∧ Below W'.heap.size W' w') := Lib.hid (fun W' hb hc => indexP_any ns (by omega) z _ _ W' (hN.below hb) (cell_at (o := 0) hc rfl) (heap_lt hc))
  have hzd := mkB_size d
  have hdi : (d.length : Int) ≤ 100000 := by omega
  have hli : (ns.length : Int) ≤ 1000 := by omega
  have HID := Lib.hid hid
  clear hN hid hlen hdl
  go_enter Tryz.func17, Tryz.ntmps17
  go_upto_region 1 with fail
  have HF : Hid (∀ w', Below (W.heap.size + 3) (((W.alloc (.cells (keepV (.slice q ns.length c) nx) 24)).alloc (.cells #[.int .i64 z] 3)).alloc (.cells (keepV (.slice none 0 0) 0) 24)) w' → Below W.heap.size W w' ∧ w'.heap[W.heap.size]? = some (.cells (keepV (.slice q ns.length c) nx) 24) ∧ w'.heap[W.heap.size + 1]? = some (.cells #[.int .i64 z] 3) ∧ w'.heap[W.heap.size + 2]? = some (.cells (keepV (.slice none 0 0) 0) 24)) := Lib.hid (fun w' h => kept3b h)
  have HS0 : Hid ((((W.alloc (.cells (keepV (.slice q ns.length c) nx) 24)).alloc (.cells #[.int .i64 z] 3)).alloc (.cells (keepV (.slice none 0 0) 0) 24)).heap.size = W.heap.size + 3) := Lib.hid (by simp only [heap_len])
  generalize hK : (((W.alloc (.cells (keepV (.slice q ns.length c) nx) 24)).alloc (.cells #[.int .i64 z] 3)).alloc (.cells (keepV (.slice none 0 0) 0) 24)) = K0 at HF HS0 ⊢
  have s0 := cell_at (o := 0) (HF.out K0 (Below.refl _ _)).2.1 rfl
  have s1 := cell_at (o := 1) (HF.out K0 (Below.refl _ _)).2.1 rfl
  clear hK
  go_upto_region 2 with (go_at_call 43; refine (HIX.out _ (HF.out K0 (Below.refl _ _)).1 (HF.out K0 (Below.refl _ _)).2.2.1).mono ?_; rintro e w1 ⟨⟨i, rfl, hi⟩, hb1⟩; have HB1 : Hid (Below (W.heap.size + 3) K0 w1) := Lib.hid (hb1.mono (by rw [HS0.out]; exact Nat.le_refl _)); have HI := Lib.hid hi; clear hb1 hi)
  clear s0 s1
  have s0 := cell_at (o := 0) (HF.out _ HB1.out).2.1 rfl
  have s1 := cell_at (o := 1) (HF.out _ HB1.out).2.1 rfl
  have HZ1 := Lib.hid (HF.out _ HB1.out).2.2.2
  have hs1 : W.heap.size + 3 ≤ w1.heap.size := by have := HB1.out.size; rw [HS0.out] at this; exact this
  rcases HI.out with ⟨rfl, hno⟩ | ⟨k, hk, rfl, hkp, hno⟩
  · have HE : Hid (putE ns z d = 2 ∧ putL ns z d = ns) := Lib.hid (by
      have : ns.any (isF z) = false := List.any_eq_false.2 (fun x hx => by
        obtain ⟨j, hj, rfl⟩ := List.getElem_of_mem hx
        rw [hno j hj]; decide)
      have h2 : putE ns z d = 2 := by rw [putE, this]; rfl
      exact ⟨h2, by rw [putL, h2, if_neg (by decide)]⟩)
    clear hno HI HIX HCL
    go_wp2_with (refine wpl_store 24 ?_; intro ee he; refine wpList_store_row he _ _ _ ee (W.heap.size + 2) (keepV (.slice q ns.length c) nx) rfl rfl 24 (keepV (.slice none 0 0) 0) HZ1.out (tree_size _ _) rfl (tree_one _) ?_)
    refine bodyPost_ret (res_cell_tmp rfl rfl (row_same HZ1.out) (by kernel_rfl) (tree_size _ _)) rfl ?_
    exact ⟨_, by rw [HE.out.1]; rfl, by rw [HE.out.2]; exact NodesV.below HN.out (below_row (HF.out _ HB1.out).1 _ _ (by omega)), below_row (HF.out _ HB1.out).1 _ _ (by omega)⟩
  · have HAN : Hid (ns.any (isF z) = true) := Lib.hid (List.any_eq_true.2 ⟨ns[k], List.getElem_mem hk, hkp⟩)
    have HKP := Lib.hid hkp
    have HK := Lib.hid hk
    have hki : (k : Int) < ns.length := by omega
    clear hno HI HIX hkp
    by_cases hd : 32768 < d.length
    · have HE : Hid (putE ns z d = 28 ∧ putL ns z d = ns) := Lib.hid (by
        have h2 : putE ns z d = 28 := by rw [putE, if_pos HAN.out, if_pos hd]
        exact ⟨h2, by rw [putL, h2, if_neg (by decide)]⟩)
      have hdn : (32768 : Int) < d.length := by omega
      clear HCL hd
      go_wp2_with (refine wpl_store 24 ?_; intro ee he; refine wpList_store_row he _ _ _ ee (W.heap.size + 2) (keepV (.slice q ns.length c) nx) rfl rfl 24 (keepV (.slice none 0 0) 0) HZ1.out (tree_size _ _) rfl (tree_one _) ?_)
      refine bodyPost_ret (res_cell_tmp rfl rfl (row_same HZ1.out) (by kernel_rfl) (tree_size _ _)) rfl ?_
      exact ⟨_, by rw [HE.out.1]; rfl, by rw [HE.out.2]; exact NodesV.below HN.out (below_row (HF.out _ HB1.out).1 _ _ (by omega)), below_row (HF.out _ HB1.out).1 _ _ (by omega)⟩
    · have HE : Hid (putE ns z d = 0 ∧ putL ns z d = ns.set k { ns[k] with data := d }) := Lib.hid (by
        have h2 : putE ns z d = 0 := by rw [putE, if_pos HAN.out, if_neg hd]
        exact ⟨h2, by rw [putL, if_pos h2]; exact put_one HID.out hk HKP.out⟩)
      have hdn : ¬ (32768 : Int) < d.length := by omega
      clear hd
      go_upto_region 6 with fail
      go_upto_region 7 with (go_at_call 45; refine (HCL.out _ (HF.out _ HB1.out).1).mono ?_; rintro e w2 ⟨v2, rfl, ho2, hb2⟩; obtain ⟨q2, c2, rfl⟩ := nodesV_slice (nodesV_of_own ho2); have HO2 := Lib.hid ho2; have HB2 := Lib.hid hb2; have u0 := cell_at (o := 0) ((hb2.block _ (heap_lt (HF.out _ HB1.out).2.1)).trans (HF.out _ HB1.out).2.1) rfl; have uz : w2.frozen? ⟨W.heap.size, 0, none⟩ = false := free_at ((hb2.block _ (heap_lt (HF.out _ HB1.out).2.1)).trans (HF.out _ HB1.out).2.1); clear ho2 hb2)
      obtain ⟨g, hgq, HGB⟩ : ∃ g, q2 = some ⟨g, 0, none⟩ ∧ w1.heap.size ≤ g := by
        rcases HO2.out.2 with ⟨_, h0⟩ | ⟨g, cap, cur, hv, hB, _⟩
        · have := HK.out; omega
        · cases hv; exact ⟨g, rfl, hB⟩
      obtain rfl := hgq
      clear s0 s1
      obtain ⟨W3, hW3⟩ : ∃ W3, W3 = w2.setCell ⟨W.heap.size, 0, none⟩ (.slice (some ⟨g, 0, none⟩) ns.length c2) := ⟨_, rfl⟩
      have H3 : Hid (W3.heap[W.heap.size]? = some (.cells (keepV (.slice (some ⟨g, 0, none⟩) ns.length c2) nx) 24) ∧ W3.heap[W.heap.size + 2]? = some (.cells (keepV (.slice none 0 0) 0) 24)) := Lib.hid (by
        have hf := HF.out _ (HB1.out.trans (HB2.out.mono hs1))
        rw [hW3]
        exact ⟨heap_set (o := 0) hf.2.1, (heap_set_ne _ _ _ _ _ (by omega)).trans hf.2.2.2⟩)
      have HB3 : Hid (Below W.heap.size W W3) := Lib.hid (by rw [hW3]; exact (HF.out _ (HB1.out.trans (HB2.out.mono hs1))).1.setCell (p := ⟨W.heap.size, 0, none⟩) (Nat.le_refl _) _)
      have HO3 : Hid (W3.ownsRow w1.heap.size 28 4 (.slice (some ⟨g, 0, none⟩) ns.length c2) ns.length (nodeVs ns)) := Lib.hid (by rw [hW3]; exact ownsRow_above HO2.out (heap_set_len _ _ _) (fun k hk => heap_set_ne _ _ _ _ _ (by omega)))
      rw [← hW3]
      clear hW3 u0 uz
      have u0 := cell_at (o := 0) H3.out.1 rfl
      have u1 := cell_at (o := 1) H3.out.1 rfl
      have hsp := own_setData (i := k) d rfl hk HO3.out
      have uc := hsp.1
      obtain ⟨ov, uc⟩ := uc
      have uz := hsp.2.1
      have HO4 := Lib.hid hsp.2.2
      clear hsp
      have hgne : g ≠ W.heap.size := by omega
      have hgne2 : g ≠ W.heap.size + 2 := by omega
      go_upto_region 8 with fail
      obtain ⟨W4, hW4⟩ : ∃ W4, W4 = W3.setCell ⟨g, k * 4 + 2, none⟩ (.string (mkB d)) := ⟨_, rfl⟩
      have H4 : Hid (W4.heap[W.heap.size]? = some (.cells (keepV (.slice (some ⟨g, 0, none⟩) ns.length c2) nx) 24)) := Lib.hid (by rw [hW4]; exact (heap_set_ne _ _ _ _ _ (fun e => hgne (by first | exact e | exact e.symm))).trans H3.out.1)
      have HZ4 : Hid (W4.heap[W.heap.size + 2]? = some (.cells (keepV (.slice none 0 0) 0) 24)) := Lib.hid (by rw [hW4]; exact (heap_set_ne _ _ _ _ _ (fun e => hgne2 (by first | exact e | exact e.symm))).trans H3.out.2)
      have HB4 : Hid (Below W.heap.size W W4) := Lib.hid (by rw [hW4]; exact HB3.out.setCell (p := ⟨g, k * 4 + 2, none⟩) (by show W.heap.size ≤ g; omega) _)
      rw [← hW4] at HO4 ⊢
      clear hW4 u0 u1 uz uc
      have u0 := cell_at (o := 0) H4.out rfl
      have u1 := cell_at (o := 1) H4.out rfl
      go_wp2_with (refine wpl_store 24 ?_; intro ee he; refine wpList_store_row he _ _ _ ee (W.heap.size + 2) (keepV (.slice (some ⟨g, 0, none⟩) ns.length c2) nx) rfl rfl 24 (keepV (.slice none 0 0) 0) HZ4.out (tree_size _ _) rfl (tree_one _) ?_)
      refine bodyPost_ret (res_cell_tmp rfl rfl (row_same HZ4.out) (by kernel_rfl) (tree_size _ _)) rfl ?_
      refine ⟨_, by rw [HE.out.1]; rfl, ?_, below_row HB4.out _ _ (by omega)⟩
      rw [HE.out.2]
      have ho := ownsRow_above HO4.out (row_len W4 (W.heap.size + 2) (keepV (.slice (some ⟨g, 0, none⟩) ns.length c2) nx)) (fun k hk => row_ne _ _ _ _ (by omega))
      have hl : (ns.set k { ns[k] with data := d }).length = ns.length := List.length_set
      rw [← hl] at ho ⊢
      exact nodesV_of_own ho
end Go.Proofs.YtlpgandflkabcaaGreatDoor
namespace Go.Proofs.YtlpgandflkabcaaGreatDoor
open Go Go.RowKit Go.Shelf
set_option linter.unusedVariables false
set_option linter.unusedSimpArgs false

theorem put_take {ns : List NodeD} {z : Int} {d : List UInt8} {k : Nat} (hk : k < ns.length) : (ns.take (k + 1)).map (putN z d) = (ns.take k).map (putN z d) ++ [putN z d ns[k]] ∧ (ns.take (k + 1)).any (isF z) = ((ns.take k).any (isF z) || isF z ns[k]) := by
  rw [List.take_succ_eq_append_getElem hk, List.map_append, List.any_append]
  exact ⟨rfl, by simp⟩
set_option maxRecDepth 100000 in
set_option maxHeartbeats 8000000 in
theorem rput_any (ns : List NodeD) (hlen : ns.length ≤ 1000) (z : Int) (d : List UInt8) (hdl : d.length ≤ 100000) (v : Value) (nx : Int) (W : World) (hN : NodesV W v ns) :
    Calls Tryz.prog 18 #[.agg (keepV v nx), .int .i64 z, .string (mkB d)] W fun e w' => ∃ v', e = .returned (.tuple #[.agg (keepV v' nx), .int .i64 (putE ns z d)]) ∧ NodesV w' v' (putL ns z d) ∧ Below W.heap.size W w' := by
  obtain ⟨q, c, rfl, hN0⟩ := hN
  have HNN : Hid (NodesV W (.slice q ns.length c) ns) := Lib.hid ⟨q, c, rfl, hN0⟩
  have HN := Lib.hid hN0
  have hli : (ns.length : Int) ≤ 1000 := by omega
  have HLEN := Lib.hid hlen
  have hzd := mkB_size d
  have hdi : (d.length : Int) ≤ 100000 := by omega
  obtain ⟨W0, hW0⟩ : ∃ W0, W0 = (W.alloc (.cells (keepV (.slice q ns.length c) nx) 24)).alloc (.cells (keepV (.slice none 0 0) 0) 24) := ⟨_, rfl⟩
  have HF : Hid (∀ w', Below W0.heap.size W0 w' → Below W.heap.size W w' ∧ w'.heap[W.heap.size]? = some (.cells (keepV (.slice q ns.length c) nx) 24) ∧ w'.heap[W.heap.size + 1]? = some (.cells (keepV (.slice none 0 0) 0) 24)) := Lib.hid (fun w' h => by
    rw [hW0] at h
    exact kept2 (h.mono (by simp only [heap_len]; omega)))
  have HS0 : Hid (W0.heap.size = W.heap.size + 2) := Lib.hid (by rw [hW0]; simp only [heap_len])
  clear hN0 hlen hdl
  go_enter Tryz.func18, Tryz.ntmps18
  go_wp2
  rw [← hW0]
  clear hW0
  go_loopw [8, 9, 10] (fun u1 u2 iv wr => ∃ j : Nat, ∃ fb : Bool, j ≤ ns.length ∧ u2 = .bool fb ∧ iv = .int .i64 j ∧ Hid (fb = (ns.take j).any (isF z)) ∧ Hid (Below W0.heap.size W0 wr) ∧ Hid (wr.ownsRow W0.heap.size 28 4 u1 ((ns.take j).map (putN z d)).length (nodeVs ((ns.take j).map (putN z d))))) (fun u1 u2 iv wr => ns.length - (intOf iv).toNat)
  case atStart => exact ⟨0, false, Nat.zero_le _, rfl, rfl, Lib.hid rfl, Lib.hid (Below.refl _ _), Lib.hid (World.ownsRow_nil _ _ _ _)⟩
  case round =>
    obtain ⟨j, fb, hj, rfl, rfl, HFB, HB, HO⟩ := hrel
    have s0 := cell_at (o := 0) (HF.out _ HB.out).2.1 rfl
    have s1 := cell_at (o := 1) (HF.out _ HB.out).2.1 rfl
    by_cases hlt : j < ns.length
    · obtain ⟨b, off, rfl, hrow⟩ := HN.out (nonil hlt)
      have hrow2 := hrow.below (HF.out _ HB.out).1
      have c0 := hrow2.c0 j hlt
      have c1 := hrow2.c1 j hlt
      have c2 := hrow2.c2 j hlt
      have c3 := hrow2.c3 j hlt
      have hji : (j : Int) < ns.length := by omega
      have HMT := Lib.hid (put_take (z := z) (d := d) hlt)
      have HLL : Hid (((ns.take j).map (putN z d)).length ≤ 1000) := Lib.hid (by rw [List.length_map, List.length_take]; have := HLEN.out; omega)
      obtain ⟨y, hy⟩ : ∃ y, y = ns[j] := ⟨_, rfl⟩
      rw [← hy] at c0 c1 c2 c3 HMT
      clear hy hrow hrow2
      obtain ⟨yp, yd, yq, yi⟩ := y
      simp only at c0 c1 c2 c3
      cases e1 : (yi == z)
      · cases yd
        · have HIN : Hid ((ns.take (j + 1)).map (putN z d) = (ns.take j).map (putN z d) ++ [⟨yp, false, yq, yi⟩] ∧ (ns.take (j + 1)).any (isF z) = ((ns.take j).any (isF z) || false)) := Lib.hid (by
            have hF : isF z ⟨yp, false, yq, yi⟩ = false := by show ((yi == z) && !false) = false; rw [e1]; rfl
            obtain ⟨h1, h2⟩ := HMT.out
            rw [putN, hF] at h1
            rw [hF] at h2
            exact ⟨h1, h2⟩)
          clear HMT
          have HO2 := Lib.hid ((HO.out.alloc (.cells (nodeV ⟨yp, false, yq, yi⟩) 28)).alloc (.cells (nodeV ⟨yp, false, yq, yi⟩) 28))
          go_wp2_with (at_builtin; refine append_node rfl _ _ rfl W0.heap.size _ ((ns.take j).map (putN z d)) rfl HO2.out ⟨yp, false, yq, yi⟩ (wr.heap.size + 1) rfl (heap_new _ _ _ (by simp only [heap_len])) HLL.out (by have := HB.out.size; simp only [heap_len]; omega) ?_; intro v' w6 hown' hgrow; have K1 : Hid (w6.ownsRow W0.heap.size 28 4 v' ((ns.take (j + 1)).map (putN z d)).length (nodeVs ((ns.take (j + 1)).map (putN z d)))) := Lib.hid (by rw [HIN.out.1]; exact hown'); have HB6 : Hid (Below W0.heap.size W0 w6) := Lib.hid (below_appended ((HB.out.alloc HB.out.size _).alloc (by have := HB.out.size; simp only [heap_len]; omega) _) (Nat.le_refl _) HO2.out hgrow); clear hown' hgrow)
          go_roundw
          case rel => exact ⟨j + 1, fb, by omega, rfl, by go_num, Lib.hid (by rw [HIN.out.2, ← HFB.out, Bool.or_false]), HB6, K1⟩
          case measure => simp [intOf]; omega
        · have HIN : Hid ((ns.take (j + 1)).map (putN z d) = (ns.take j).map (putN z d) ++ [⟨yp, true, yq, yi⟩] ∧ (ns.take (j + 1)).any (isF z) = ((ns.take j).any (isF z) || false)) := Lib.hid (by
            have hF : isF z ⟨yp, true, yq, yi⟩ = false := by show ((yi == z) && !true) = false; rw [e1]; rfl
            obtain ⟨h1, h2⟩ := HMT.out
            rw [putN, hF] at h1
            rw [hF] at h2
            exact ⟨h1, h2⟩)
          clear HMT
          have HO2 := Lib.hid ((HO.out.alloc (.cells (nodeV ⟨yp, true, yq, yi⟩) 28)).alloc (.cells (nodeV ⟨yp, true, yq, yi⟩) 28))
          go_wp2_with (at_builtin; refine append_node rfl _ _ rfl W0.heap.size _ ((ns.take j).map (putN z d)) rfl HO2.out ⟨yp, true, yq, yi⟩ (wr.heap.size + 1) rfl (heap_new _ _ _ (by simp only [heap_len])) HLL.out (by have := HB.out.size; simp only [heap_len]; omega) ?_; intro v' w6 hown' hgrow; have K1 : Hid (w6.ownsRow W0.heap.size 28 4 v' ((ns.take (j + 1)).map (putN z d)).length (nodeVs ((ns.take (j + 1)).map (putN z d)))) := Lib.hid (by rw [HIN.out.1]; exact hown'); have HB6 : Hid (Below W0.heap.size W0 w6) := Lib.hid (below_appended ((HB.out.alloc HB.out.size _).alloc (by have := HB.out.size; simp only [heap_len]; omega) _) (Nat.le_refl _) HO2.out hgrow); clear hown' hgrow)
          go_roundw
          case rel => exact ⟨j + 1, fb, by omega, rfl, by go_num, Lib.hid (by rw [HIN.out.2, ← HFB.out, Bool.or_false]), HB6, K1⟩
          case measure => simp [intOf]; omega
      · cases yd
        · have HIN : Hid ((ns.take (j + 1)).map (putN z d) = (ns.take j).map (putN z d) ++ [⟨yp, false, d, yi⟩] ∧ (ns.take (j + 1)).any (isF z) = ((ns.take j).any (isF z) || true)) := Lib.hid (by
            have hF : isF z ⟨yp, false, yq, yi⟩ = true := by show ((yi == z) && !false) = true; rw [e1]; rfl
            obtain ⟨h1, h2⟩ := HMT.out
            rw [putN, hF] at h1
            rw [hF] at h2
            exact ⟨h1, h2⟩)
          clear HMT
          have HO2 := Lib.hid ((HO.out.alloc (.cells (nodeV ⟨yp, false, d, yi⟩) 28)).alloc (.cells (nodeV ⟨yp, false, d, yi⟩) 28))
          go_wp2_with (at_builtin; refine append_node rfl _ _ rfl W0.heap.size _ ((ns.take j).map (putN z d)) rfl HO2.out ⟨yp, false, d, yi⟩ (wr.heap.size + 1) rfl (heap_new _ _ _ (by simp only [heap_len])) HLL.out (by have := HB.out.size; simp only [heap_len]; omega) ?_; intro v' w6 hown' hgrow; have K1 : Hid (w6.ownsRow W0.heap.size 28 4 v' ((ns.take (j + 1)).map (putN z d)).length (nodeVs ((ns.take (j + 1)).map (putN z d)))) := Lib.hid (by rw [HIN.out.1]; exact hown'); have HB6 : Hid (Below W0.heap.size W0 w6) := Lib.hid (below_appended ((HB.out.alloc HB.out.size _).alloc (by have := HB.out.size; simp only [heap_len]; omega) _) (Nat.le_refl _) HO2.out hgrow); clear hown' hgrow)
          go_roundw
          case rel => exact ⟨j + 1, true, by omega, rfl, by go_num, Lib.hid (by rw [HIN.out.2, Bool.or_true]), HB6, K1⟩
          case measure => simp [intOf]; omega
        · have HIN : Hid ((ns.take (j + 1)).map (putN z d) = (ns.take j).map (putN z d) ++ [⟨yp, true, yq, yi⟩] ∧ (ns.take (j + 1)).any (isF z) = ((ns.take j).any (isF z) || false)) := Lib.hid (by
            have hF : isF z ⟨yp, true, yq, yi⟩ = false := by show ((yi == z) && !true) = false; rw [e1]; rfl
            obtain ⟨h1, h2⟩ := HMT.out
            rw [putN, hF] at h1
            rw [hF] at h2
            exact ⟨h1, h2⟩)
          clear HMT
          have HO2 := Lib.hid ((HO.out.alloc (.cells (nodeV ⟨yp, true, yq, yi⟩) 28)).alloc (.cells (nodeV ⟨yp, true, yq, yi⟩) 28))
          go_wp2_with (at_builtin; refine append_node rfl _ _ rfl W0.heap.size _ ((ns.take j).map (putN z d)) rfl HO2.out ⟨yp, true, yq, yi⟩ (wr.heap.size + 1) rfl (heap_new _ _ _ (by simp only [heap_len])) HLL.out (by have := HB.out.size; simp only [heap_len]; omega) ?_; intro v' w6 hown' hgrow; have K1 : Hid (w6.ownsRow W0.heap.size 28 4 v' ((ns.take (j + 1)).map (putN z d)).length (nodeVs ((ns.take (j + 1)).map (putN z d)))) := Lib.hid (by rw [HIN.out.1]; exact hown'); have HB6 : Hid (Below W0.heap.size W0 w6) := Lib.hid (below_appended ((HB.out.alloc HB.out.size _).alloc (by have := HB.out.size; simp only [heap_len]; omega) _) (Nat.le_refl _) HO2.out hgrow); clear hown' hgrow)
          go_roundw
          case rel => exact ⟨j + 1, fb, by omega, rfl, by go_num, Lib.hid (by rw [HIN.out.2, ← HFB.out, Bool.or_false]), HB6, K1⟩
          case measure => simp [intOf]; omega
    · obtain rfl : j = ns.length := by omega
      have HFE : Hid (fb = ns.any (isF z)) := Lib.hid (by have := HFB.out; rw [List.take_length] at this; exact this)
      have HOE : Hid (wr.ownsRow W0.heap.size 28 4 u8 (ns.map (putN z d)).length (nodeVs (ns.map (putN z d)))) := Lib.hid (by have := HO.out; rw [List.take_length] at this; exact this)
      clear HFB HO
      obtain ⟨q8, c8, hu8⟩ := nodesV_slice (nodesV_of_own HOE.out)
      subst hu8
      have HT := Lib.hid (HF.out _ HB.out).2.1
      have HZ := Lib.hid (HF.out _ HB.out).2.2
      have hs0' := HS0.out
      cases fb
      · have HE : Hid (putE ns z d = 2 ∧ putL ns z d = ns) := Lib.hid (by
          have h2 : putE ns z d = 2 := by rw [putE, ← HFE.out]; rfl
          exact ⟨h2, by rw [putL, h2, if_neg (by decide)]⟩)
        clear HFE
        go_wp2_with (refine wpl_store 24 ?_; intro ee he; refine wpList_store_row he _ _ _ ee (W.heap.size + 1) (keepV (.slice q ns.length c) nx) rfl rfl 24 (keepV (.slice none 0 0) 0) HZ.out (tree_size _ _) rfl (tree_one _) ?_)
        refine bodyPost_ret (res_cell_tmp rfl rfl (row_same HZ.out) (by kernel_rfl) (tree_size _ _)) rfl ?_
        exact ⟨_, by rw [HE.out.1]; rfl, by rw [HE.out.2]; exact NodesV.below HNN.out (below_row (HF.out _ HB.out).1 _ _ (by omega)), below_row (HF.out _ HB.out).1 _ _ (by omega)⟩
      · by_cases hd : 32768 < d.length
        · have HE : Hid (putE ns z d = 28 ∧ putL ns z d = ns) := Lib.hid (by
            have h2 : putE ns z d = 28 := by rw [putE, ← HFE.out, if_pos rfl, if_pos hd]
            exact ⟨h2, by rw [putL, h2, if_neg (by decide)]⟩)
          have hdn : (32768 : Int) < d.length := by omega
          clear HFE hd
          go_wp2_with (refine wpl_store 24 ?_; intro ee he; refine wpList_store_row he _ _ _ ee (W.heap.size + 1) (keepV (.slice q ns.length c) nx) rfl rfl 24 (keepV (.slice none 0 0) 0) HZ.out (tree_size _ _) rfl (tree_one _) ?_)
          refine bodyPost_ret (res_cell_tmp rfl rfl (row_same HZ.out) (by kernel_rfl) (tree_size _ _)) rfl ?_
          exact ⟨_, by rw [HE.out.1]; rfl, by rw [HE.out.2]; exact NodesV.below HNN.out (below_row (HF.out _ HB.out).1 _ _ (by omega)), below_row (HF.out _ HB.out).1 _ _ (by omega)⟩
        · have HE : Hid (putE ns z d = 0 ∧ putL ns z d = ns.map (putN z d)) := Lib.hid (by
            have h2 : putE ns z d = 0 := by rw [putE, ← HFE.out, if_pos rfl, if_neg hd]
            exact ⟨h2, by rw [putL, if_pos h2]⟩)
          have hdn : ¬ (32768 : Int) < d.length := by omega
          clear HFE hd
          obtain ⟨L, hL⟩ : ∃ L, L = ns.map (putN z d) := ⟨_, rfl⟩
          rw [← hL] at HE HOE ⊢
          clear hL
          have k0 := cell_at (o := 0) HT.out rfl
          have k1 := cell_at (o := 1) HT.out rfl
          have kz : wr.frozen? ⟨W.heap.size, 0, none⟩ = false := free_at HT.out
          clear s0 s1
          go_upto_region 16 with fail
          obtain ⟨W4, hW4⟩ : ∃ W4, W4 = wr.setCell ⟨W.heap.size, 0, none⟩ (.slice q8 L.length c8) := ⟨_, rfl⟩
          have HT4 : Hid (W4.heap[W.heap.size]? = some (.cells (keepV (.slice q8 L.length c8) nx) 24)) := Lib.hid (by rw [hW4]; exact heap_set (o := 0) HT.out)
          have HZ4 : Hid (W4.heap[W.heap.size + 1]? = some (.cells (keepV (.slice none 0 0) 0) 24)) := Lib.hid (by rw [hW4, heap_set_ne _ _ _ _ _ (by omega)]; exact HZ.out)
          have HW4 : Hid (Below W.heap.size W W4) := Lib.hid (by rw [hW4]; exact (HF.out _ HB.out).1.setCell (p := ⟨W.heap.size, 0, none⟩) (Nat.le_refl _) _)
          have HO4 : Hid (W4.ownsRow W0.heap.size 28 4 (.slice q8 L.length c8) L.length (nodeVs L)) := Lib.hid (by rw [hW4]; exact ownsRow_above HOE.out (heap_set_len _ _ _) (fun k hk => heap_set_ne _ _ _ _ _ (by omega)))
          rw [← hW4]
          clear hW4 k0 k1 kz
          have k0 := cell_at (o := 0) HT4.out rfl
          have k1 := cell_at (o := 1) HT4.out rfl
          go_wp2_with (refine wpl_store 24 ?_; intro ee he; refine wpList_store_row he _ _ _ ee (W.heap.size + 1) (keepV (.slice q8 L.length c8) nx) rfl rfl 24 (keepV (.slice none 0 0) 0) HZ4.out (tree_size _ _) rfl (tree_one _) ?_)
          refine bodyPost_ret (res_cell_tmp rfl rfl (row_same HZ4.out) (by kernel_rfl) (tree_size _ _)) rfl ?_
          exact ⟨_, by rw [HE.out.1]; rfl, by rw [HE.out.2]; exact nodesV_of_own (ownsRow_above HO4.out (row_len _ _ _) (fun k hk => row_ne _ _ _ _ (by omega))), below_row HW4.out _ _ (by omega)⟩
end Go.Proofs.YtlpgandflkabcaaGreatDoor
namespace Go.Proofs.YtlpgandflkabcaaGreatDoor
open Go Go.RowKit Go.Shelf
set_option linter.unusedVariables false
set_option linter.unusedSimpArgs false

theorem fit_sized {l : List NodeD} {nx : Int} (h : FitT l nx) : ∀ a ∈ l, NodeSized a := fun a ha => by
  obtain ⟨h1, h2, h3, h4, h5, _⟩ := fit_m h ha
  have := path_len h1
  have := h.next
  exact ⟨by omega, by omega, by omega, by omega⟩
set_option maxRecDepth 100000 in
set_option maxHeartbeats 64000000 in
theorem does_any (ns : List NodeD) (hs : ∀ a ∈ ns, NodeSized a) (v : Value) (nx : Int) (hnx : -9223372036854775808 ≤ nx ∧ nx < 9223372036854775808) (p tw : List UInt8) (hpz : p.length ≤ 140737488351232) (htz : tw.length ≤ 140737488351232) (dir : Bool) (z : Int) (d : List UInt8) (hdz : d.length ≤ 140737488351232) (W : World) (hN : NodesV W v ns) :
    Calls Tryz.prog 5 #[.agg (keepV v nx), .string (mkB p), .string (mkB tw), .bool dir, .int .i64 z, .string (mkB d)] W fun e w' => e = .returned (.bool true) ∧ Below W.heap.size W w' := by
  obtain ⟨q, c, rfl, hN0⟩ := hN
  have hN : NodesV W (.slice q ns.length c) ns := ⟨q, c, rfl, hN0⟩
  have hz1 := mkB_size p
  have hz2 := mkB_size tw
  have hz3 := mkB_size d
  have HZ : Hid (∀ w1 : World, Below (W.alloc (.cells (keepV (.slice q ns.length c) nx) 24)).heap.size (W.alloc (.cells (keepV (.slice q ns.length c) nx) 24)) w1 → Keep W (keepV (.slice q ns.length c) nx) w1) := Lib.hid (fun w1 h => keep_of h)
  have HFW : Hid (∀ W' : World, Below W.heap.size W W' → Calls Tryz.prog 6 #[.agg (keepV (.slice q ns.length c) nx)] W' fun e w' => e = .returned (.bool (fewT ns)) ∧ Below W'.heap.size W' w') := Lib.hid (fun W' hb => few_any ns _ nx W' (hN.below hb))
  have HAW : Hid (∀ w : World, Calls Tryz.prog 8 #[] w fun e w' => e = .returned (.bool true) ∧ Below w.heap.size w w') := Lib.hid awake_any
  cases hfw : fewT ns
  · rw [hfw] at HFW
    clear hN hN0 hs hfw hnx
    go_enter Tryz.func5, Tryz.ntmps5
    go_wp2_with (first
      | (go_at_call 6; refine (HFW.out _ ((Below.refl _ _).alloc (Nat.le_refl _) _)).mono ?_; rintro e w1 ⟨rfl, hb1⟩; have HB1 := Lib.hid hb1; clear hb1)
      | (go_at_call 8; refine (HAW.out _).mono ?_; rintro e w9 ⟨rfl, hb9⟩; have HB9 := Lib.hid (HB1.out.trans (hb9.mono HB1.out.size)); clear hb9))
    go_ret
    exact ⟨rfl, (HZ.out _ HB9.out).1⟩
  · obtain ⟨hf1, hf2⟩ := (Bool.and_eq_true _ _).mp hfw
    have hf1 := of_decide_eq_true hf1
    obtain ⟨b, hb, hfi⟩ := fit_is ns (fun i h => ⟨by have := of_decide_eq_true (List.all_eq_true.1 hf2 _ (List.getElem_mem h)); omega, (hs _ (List.getElem_mem h)).2⟩) nx hnx
    have HFI : Hid (∀ W' : World, Below W.heap.size W W' → Calls Tryz.prog 7 #[.agg (keepV (.slice q ns.length c) nx)] W' fun e w' => e = .returned (.bool b) ∧ Below W'.heap.size W' w') := Lib.hid (fun W' hb => hfi _ W' (hN.below hb))
    rw [hfw] at HFW
    clear hfi hfw
    cases b
    · clear hN hN0 hs hnx hb hf1 hf2
      go_enter Tryz.func5, Tryz.ntmps5
      go_wp2_with (first
        | (go_at_call 6; refine (HFW.out _ ((Below.refl _ _).alloc (Nat.le_refl _) _)).mono ?_; rintro e w1 ⟨rfl, hb1⟩; have HB1 := Lib.hid hb1; have z10 := cell_at (o := 0) (HZ.out _ hb1).2 rfl; have z11 := cell_at (o := 1) (HZ.out _ hb1).2 rfl; clear hb1)
        | (go_at_call 7; refine (HFI.out _ (HZ.out _ HB1.out).1).mono ?_; rintro e w2 ⟨rfl, hb2⟩; have HB2 := Lib.hid (HB1.out.trans (hb2.mono HB1.out.size)); have z20 := cell_at (o := 0) (HZ.out _ HB2.out).2 rfl; have z21 := cell_at (o := 1) (HZ.out _ HB2.out).2 rfl; clear hb2)
        | (go_at_call 8; refine (HAW.out _).mono ?_; rintro e w9 ⟨rfl, hb9⟩; have HB9 := Lib.hid (HB2.out.trans (hb9.mono HB2.out.size)); clear hb9))
      go_ret
      exact ⟨rfl, (HZ.out _ HB9.out).1⟩
    · have hfit : FitT ns nx := hb.1 rfl
      by_cases hpl : p.length ≤ 600
      · have hpi : ¬ (600 : Int) < p.length := by omega
        by_cases htl : tw.length ≤ 600
        · have hti : ¬ (600 : Int) < tw.length := by omega
          by_cases hdl : d.length ≤ 40000
          · have hdi : ¬ (40000 : Int) < d.length := by omega
            have hr := fit_riseS hfit
            have h40 := hfit.forty
            have h1n := hfit.one
            have hnx0 : 0 ≤ nx := by have := (hfit.all 0 h1n).low; have := (hfit.all 0 h1n).high; omega
            have hps : ∀ k (h : k < ns.length), ns[k].path.length ≤ 1000 := fun k h => by have := path_len (hfit.all k h).path; omega
            have hpb : ∀ x ∈ ns, pathB x.path = true := fun x hx => (fit_m hfit hx).path
            obtain ⟨me, hme⟩ : ∃ me, me = makeE ns nx p := ⟨_, rfl⟩
            obtain ⟨mL, hmL⟩ : ∃ mL, mL = makeL ns nx p dir := ⟨_, rfl⟩
            obtain ⟨mx, hmx⟩ : ∃ mx, mx = (if me = 0 then nx + 1 else nx) := ⟨_, rfl⟩
            obtain ⟨re, hre⟩ : ∃ re, re = removeE ns p dir := ⟨_, rfl⟩
            obtain ⟨rL, hrL⟩ : ∃ rL, rL = removeL ns p dir := ⟨_, rfl⟩
            obtain ⟨pe, hpe⟩ : ∃ pe, pe = putE ns z d := ⟨_, rfl⟩
            obtain ⟨pL, hpL⟩ : ∃ pL, pL = putL ns z d := ⟨_, rfl⟩
            have HMK : Hid (∀ W' : World, Below W.heap.size W W' → Calls Tryz.prog 10 #[.agg (keepV (.slice q ns.length c) nx), .string (mkB p), .bool dir] W' fun e w' => ∃ v', e = .returned (.tuple #[.agg (keepV v' mx), .int .i64 me]) ∧ NodesV w' v' mL ∧ Below W'.heap.size W' w') := Lib.hid (fun W' hb => by rw [hmx, hme, hmL]; exact make_any ns hr (by omega) p (by omega) dir _ nx hnx0 W' (hN.below hb))
            have HMR : Hid (∀ W' : World, Below W.heap.size W W' → Calls Tryz.prog 14 #[.agg (keepV (.slice q ns.length c) nx), .string (mkB p), .bool dir] W' fun e w' => ∃ v', e = .returned (.tuple #[.agg (keepV v' mx), .int .i64 me]) ∧ NodesV w' v' mL ∧ Below W'.heap.size W' w') := Lib.hid (fun W' hb => by rw [hmx, hme, hmL]; exact rmake_any ns hr (by omega) p (by omega) dir _ nx hnx0 W' (hN.below hb))
            have HRM : Hid (∀ W' : World, Below W.heap.size W W' → Calls Tryz.prog 12 #[.agg (keepV (.slice q ns.length c) nx), .string (mkB p), .bool dir] W' fun e w' => ∃ v', e = .returned (.tuple #[.agg (keepV v' nx), .int .i64 re]) ∧ NodesV w' v' rL ∧ Below W'.heap.size W' w') := Lib.hid (fun W' hb => by rw [hre, hrL]; exact remove_any ns hr (by omega) (by omega) p (by omega) dir _ nx W' (hN.below hb))
            have HRR : Hid (∀ W' : World, Below W.heap.size W W' → Calls Tryz.prog 15 #[.agg (keepV (.slice q ns.length c) nx), .string (mkB p), .bool dir] W' fun e w' => ∃ v', e = .returned (.tuple #[.agg (keepV v' nx), .int .i64 re]) ∧ NodesV w' v' rL ∧ Below W'.heap.size W' w') := Lib.hid (fun W' hb => by rw [hre, hrL]; exact rremove_any ns hr hpb (by omega) p (by omega) dir _ nx W' (hN.below hb))
            have HRN : Hid (∀ W' : World, Below W.heap.size W W' → Calls Tryz.prog 13 #[.agg (keepV (.slice q ns.length c) nx), .string (mkB p), .string (mkB tw)] W' fun e w' => RenPost ns p tw nx W' e w') := Lib.hid (fun W' hb => rename_any ns hr (by omega) hps p tw (by omega) (by omega) _ nx W' (hN.below hb))
            have HNR : Hid (∀ W' : World, Below W.heap.size W W' → Calls Tryz.prog 16 #[.agg (keepV (.slice q ns.length c) nx), .string (mkB p), .string (mkB tw)] W' fun e w' => RenPost ns p tw nx W' e w') := Lib.hid (fun W' hb => rrename_any ns hfit p tw (by omega) (by omega) _ nx W' (hN.below hb))
            have HPT : Hid (∀ W' : World, Below W.heap.size W W' → Calls Tryz.prog 17 #[.agg (keepV (.slice q ns.length c) nx), .int .i64 z, .string (mkB d)] W' fun e w' => ∃ v', e = .returned (.tuple #[.agg (keepV v' nx), .int .i64 pe]) ∧ NodesV w' v' pL ∧ Below W'.heap.size W' w') := Lib.hid (fun W' hb => by rw [hpe, hpL]; exact put_any ns (fit_ids hfit) (by omega) z d (by omega) _ nx W' (hN.below hb))
            have HPR : Hid (∀ W' : World, Below W.heap.size W W' → Calls Tryz.prog 18 #[.agg (keepV (.slice q ns.length c) nx), .int .i64 z, .string (mkB d)] W' fun e w' => ∃ v', e = .returned (.tuple #[.agg (keepV v' nx), .int .i64 pe]) ∧ NodesV w' v' pL ∧ Below W'.heap.size W' w') := Lib.hid (fun W' hb => by rw [hpe, hpL]; exact rput_any ns (by omega) z d (by omega) _ nx W' (hN.below hb))
            have HSA : Hid (∀ (l : List NodeD) (y : Int) (v1 v2 : Value) (W' : World), FitT l y → NodesV W' v1 l → NodesV W' v2 l → Calls Tryz.prog 11 #[.agg (keepV v1 y), .agg (keepV v2 y)] W' fun e w' => e = .returned (.bool true) ∧ Below W'.heap.size W' w') := Lib.hid (fun l y v1 v2 W' hf h1 h2 => by
              have := same_any l l (fit_sized hf) (fit_sized hf) (by have := hf.forty; omega) v1 v2 y y W' h1 h2
              rw [decide_eq_true ⟨rfl, rfl⟩] at this
              exact this)
            have HFY : Hid (∀ (l : List NodeD) (y : Int) (v1 : Value) (W' : World), FitT l y → NodesV W' v1 l → Calls Tryz.prog 7 #[.agg (keepV v1 y)] W' fun e w' => e = .returned (.bool true) ∧ Below W'.heap.size W' w') := Lib.hid (fun l y v1 W' hf h1 => fit_yes l y hf v1 W' h1)
            have HF1 : Hid (FitT mL mx) := Lib.hid (by rw [hmx, hme, hmL]; exact make_fit hfit p dir)
            have HF2 : Hid (FitT rL nx) := Lib.hid (by rw [hrL]; exact remove_fit hfit p dir)
            have HF4 : Hid (FitT pL nx) := Lib.hid (by rw [hpL]; exact put_fit hfit z d)
            have HRF : Hid (∀ E l, RenAns ns p tw E l → FitT l nx) := Lib.hid (fun E l h => ren_fit hfit h)
            have HRS : Hid (∀ E l E2 l2, RenAns ns p tw E l → RenAns ns p tw E2 l2 → E = E2 ∧ l = l2) := Lib.hid (fun E l E2 l2 h1 h2 => ren_same hfit h1 h2)
            clear hN hN0 hs hnx hb hf1 hf2 hpl hfit htl hdl hr h40 h1n hnx0 hps hpb hme hmL hmx hre hrL hpe hpL
            go_enter Tryz.func5, Tryz.ntmps5
            go_upto_region 4 with (first
              | (go_at_call 6; refine (HFW.out _ ((Below.refl _ _).alloc (Nat.le_refl _) _)).mono ?_; rintro e w1 ⟨rfl, hb1⟩; have HB1 := Lib.hid hb1; have z10 := cell_at (o := 0) (HZ.out _ hb1).2 rfl; have z11 := cell_at (o := 1) (HZ.out _ hb1).2 rfl; clear hb1)
              | (go_at_call 7; refine (HFI.out _ (HZ.out _ HB1.out).1).mono ?_; rintro e w2 ⟨rfl, hb2⟩; have HB2 := Lib.hid (HB1.out.trans (hb2.mono HB1.out.size)); have z20 := cell_at (o := 0) (HZ.out _ HB2.out).2 rfl; have z21 := cell_at (o := 1) (HZ.out _ HB2.out).2 rfl; clear hb2)
              | (go_at_call 10; refine (HMK.out _ (HZ.out _ HB2.out).1).mono ?_; rintro e u1 ⟨v1, rfl, hn1, hb1⟩; have HC1 := Lib.hid (HB2.out.trans (hb1.mono HB2.out.size)); have HN1 := Lib.hid hn1; obtain ⟨q1, c1, rfl⟩ := nodesV_slice hn1; clear hb1 hn1))
            clear z10 z11 z20 z21 HB1 HB2 HFW HFI HMK
            obtain ⟨T1, hT1⟩ : ∃ T, T = u1.alloc (.cells (keepV (.slice q1 mL.length c1) mx) 24) := ⟨_, rfl⟩
            have HX1 : Hid (NodesV T1 (.slice q1 mL.length c1) mL) := Lib.hid (by rw [hT1]; exact nodesV_step _ HN1.out)
            have HK1 : Hid (∀ w, Below T1.heap.size T1 w → (Keep W (keepV (.slice q ns.length c) nx) w) ∧ w.heap[u1.heap.size]? = some (.cells (keepV (.slice q1 mL.length c1) mx) 24) ∧ NodesV w (.slice q1 mL.length c1) mL) := Lib.hid (fun w h => by have hx := HX1.out.below h; rw [hT1] at h; exact ⟨HZ.out w (below_step HC1.out h).1, (below_step HC1.out h).2, hx⟩)
            rw [← hT1]
            clear hT1 HX1 HN1 HC1
            obtain ⟨G1, hG1⟩ : ∃ G, G = u1.heap.size := ⟨_, rfl⟩
            rw [← hG1] at HK1 ⊢
            clear hG1
            have s0 := cell_at (o := 0) (HK1.out T1 (Below.refl _ _)).1.2 rfl
            have s1 := cell_at (o := 1) (HK1.out T1 (Below.refl _ _)).1.2 rfl
            go_upto_region 5 with (go_at_call 14; refine (HMR.out _ (HK1.out T1 (Below.refl _ _)).1.1).mono ?_; rintro e u2 ⟨v2, rfl, hn2, hb2⟩; have HC2 := Lib.hid hb2; have HN2 := Lib.hid hn2; obtain ⟨q2, c2, rfl⟩ := nodesV_slice hn2; clear hb2 hn2)
            clear s0 s1
            obtain ⟨T2, hT2⟩ : ∃ T, T = u2.alloc (.cells (keepV (.slice q2 mL.length c2) mx) 24) := ⟨_, rfl⟩
            have HX2 : Hid (NodesV T2 (.slice q2 mL.length c2) mL) := Lib.hid (by rw [hT2]; exact nodesV_step _ HN2.out)
            have HK2 : Hid (∀ w, Below T2.heap.size T2 w → ((Keep W (keepV (.slice q ns.length c) nx) w) ∧ w.heap[G1]? = some (.cells (keepV (.slice q1 mL.length c1) mx) 24) ∧ NodesV w (.slice q1 mL.length c1) mL) ∧ w.heap[u2.heap.size]? = some (.cells (keepV (.slice q2 mL.length c2) mx) 24) ∧ NodesV w (.slice q2 mL.length c2) mL) := Lib.hid (fun w h => by have hx := HX2.out.below h; rw [hT2] at h; exact ⟨HK1.out w (below_step HC2.out h).1, (below_step HC2.out h).2, hx⟩)
            rw [← hT2]
            clear hT2 HX2 HN2 HC2
            obtain ⟨G2, hG2⟩ : ∃ G, G = u2.heap.size := ⟨_, rfl⟩
            rw [← hG2] at HK2 ⊢
            clear hG2
            clear HK1 HMR
            have s0 := cell_at (o := 0) (HK2.out T2 (Below.refl _ _)).1.1.2 rfl
            have s1 := cell_at (o := 1) (HK2.out T2 (Below.refl _ _)).1.1.2 rfl
            go_upto_region 6 with (go_at_call 12; refine (HRM.out _ (HK2.out T2 (Below.refl _ _)).1.1.1).mono ?_; rintro e u3 ⟨v3, rfl, hn3, hb3⟩; have HC3 := Lib.hid hb3; have HN3 := Lib.hid hn3; obtain ⟨q3, c3, rfl⟩ := nodesV_slice hn3; clear hb3 hn3)
            clear s0 s1
            obtain ⟨T3, hT3⟩ : ∃ T, T = u3.alloc (.cells (keepV (.slice q3 rL.length c3) nx) 24) := ⟨_, rfl⟩
            have HX3 : Hid (NodesV T3 (.slice q3 rL.length c3) rL) := Lib.hid (by rw [hT3]; exact nodesV_step _ HN3.out)
            have HK3 : Hid (∀ w, Below T3.heap.size T3 w → (((Keep W (keepV (.slice q ns.length c) nx) w) ∧ w.heap[G1]? = some (.cells (keepV (.slice q1 mL.length c1) mx) 24) ∧ NodesV w (.slice q1 mL.length c1) mL) ∧ w.heap[G2]? = some (.cells (keepV (.slice q2 mL.length c2) mx) 24) ∧ NodesV w (.slice q2 mL.length c2) mL) ∧ w.heap[u3.heap.size]? = some (.cells (keepV (.slice q3 rL.length c3) nx) 24) ∧ NodesV w (.slice q3 rL.length c3) rL) := Lib.hid (fun w h => by have hx := HX3.out.below h; rw [hT3] at h; exact ⟨HK2.out w (below_step HC3.out h).1, (below_step HC3.out h).2, hx⟩)
            rw [← hT3]
            clear hT3 HX3 HN3 HC3
            obtain ⟨G3, hG3⟩ : ∃ G, G = u3.heap.size := ⟨_, rfl⟩
            rw [← hG3] at HK3 ⊢
            clear hG3
            clear HK2 HRM
            have s0 := cell_at (o := 0) (HK3.out T3 (Below.refl _ _)).1.1.1.2 rfl
            have s1 := cell_at (o := 1) (HK3.out T3 (Below.refl _ _)).1.1.1.2 rfl
            go_upto_region 7 with (go_at_call 15; refine (HRR.out _ (HK3.out T3 (Below.refl _ _)).1.1.1.1).mono ?_; rintro e u4 ⟨v4, rfl, hn4, hb4⟩; have HC4 := Lib.hid hb4; have HN4 := Lib.hid hn4; obtain ⟨q4, c4, rfl⟩ := nodesV_slice hn4; clear hb4 hn4)
            clear s0 s1
            obtain ⟨T4, hT4⟩ : ∃ T, T = u4.alloc (.cells (keepV (.slice q4 rL.length c4) nx) 24) := ⟨_, rfl⟩
            have HX4 : Hid (NodesV T4 (.slice q4 rL.length c4) rL) := Lib.hid (by rw [hT4]; exact nodesV_step _ HN4.out)
            have HK4 : Hid (∀ w, Below T4.heap.size T4 w → ((((Keep W (keepV (.slice q ns.length c) nx) w) ∧ w.heap[G1]? = some (.cells (keepV (.slice q1 mL.length c1) mx) 24) ∧ NodesV w (.slice q1 mL.length c1) mL) ∧ w.heap[G2]? = some (.cells (keepV (.slice q2 mL.length c2) mx) 24) ∧ NodesV w (.slice q2 mL.length c2) mL) ∧ w.heap[G3]? = some (.cells (keepV (.slice q3 rL.length c3) nx) 24) ∧ NodesV w (.slice q3 rL.length c3) rL) ∧ w.heap[u4.heap.size]? = some (.cells (keepV (.slice q4 rL.length c4) nx) 24) ∧ NodesV w (.slice q4 rL.length c4) rL) := Lib.hid (fun w h => by have hx := HX4.out.below h; rw [hT4] at h; exact ⟨HK3.out w (below_step HC4.out h).1, (below_step HC4.out h).2, hx⟩)
            rw [← hT4]
            clear hT4 HX4 HN4 HC4
            obtain ⟨G4, hG4⟩ : ∃ G, G = u4.heap.size := ⟨_, rfl⟩
            rw [← hG4] at HK4 ⊢
            clear hG4
            clear HK3 HRR
            have s0 := cell_at (o := 0) (HK4.out T4 (Below.refl _ _)).1.1.1.1.2 rfl
            have s1 := cell_at (o := 1) (HK4.out T4 (Below.refl _ _)).1.1.1.1.2 rfl
            go_upto_region 8 with (go_at_call 13; refine (HRN.out _ (HK4.out T4 (Below.refl _ _)).1.1.1.1.1).mono ?_; rintro e u5 ⟨v5, E, l, rfl, hn5, hans, hb5⟩; have HAN := Lib.hid hans; have HF3 := Lib.hid (HRF.out _ _ hans); have HC5 := Lib.hid hb5; have HN5 := Lib.hid hn5; obtain ⟨q5, c5, rfl⟩ := nodesV_slice hn5; clear hb5 hn5 hans)
            clear s0 s1
            obtain ⟨T5, hT5⟩ : ∃ T, T = u5.alloc (.cells (keepV (.slice q5 l.length c5) nx) 24) := ⟨_, rfl⟩
            have HX5 : Hid (NodesV T5 (.slice q5 l.length c5) l) := Lib.hid (by rw [hT5]; exact nodesV_step _ HN5.out)
            have HK5 : Hid (∀ w, Below T5.heap.size T5 w → (((((Keep W (keepV (.slice q ns.length c) nx) w) ∧ w.heap[G1]? = some (.cells (keepV (.slice q1 mL.length c1) mx) 24) ∧ NodesV w (.slice q1 mL.length c1) mL) ∧ w.heap[G2]? = some (.cells (keepV (.slice q2 mL.length c2) mx) 24) ∧ NodesV w (.slice q2 mL.length c2) mL) ∧ w.heap[G3]? = some (.cells (keepV (.slice q3 rL.length c3) nx) 24) ∧ NodesV w (.slice q3 rL.length c3) rL) ∧ w.heap[G4]? = some (.cells (keepV (.slice q4 rL.length c4) nx) 24) ∧ NodesV w (.slice q4 rL.length c4) rL) ∧ w.heap[u5.heap.size]? = some (.cells (keepV (.slice q5 l.length c5) nx) 24) ∧ NodesV w (.slice q5 l.length c5) l) := Lib.hid (fun w h => by have hx := HX5.out.below h; rw [hT5] at h; exact ⟨HK4.out w (below_step HC5.out h).1, (below_step HC5.out h).2, hx⟩)
            rw [← hT5]
            clear hT5 HX5 HN5 HC5
            obtain ⟨G5, hG5⟩ : ∃ G, G = u5.heap.size := ⟨_, rfl⟩
            rw [← hG5] at HK5 ⊢
            clear hG5
            clear HK4 HRN
            have s0 := cell_at (o := 0) (HK5.out T5 (Below.refl _ _)).1.1.1.1.1.2 rfl
            have s1 := cell_at (o := 1) (HK5.out T5 (Below.refl _ _)).1.1.1.1.1.2 rfl
            go_upto_region 9 with (go_at_call 16; refine (HNR.out _ (HK5.out T5 (Below.refl _ _)).1.1.1.1.1.1).mono ?_; rintro e u6 ⟨v6, E2, l2, rfl, hn6, hans, hb6⟩; obtain ⟨rfl, rfl⟩ := HRS.out _ _ _ _ HAN.out hans; have HC6 := Lib.hid hb6; have HN6 := Lib.hid hn6; obtain ⟨q6, c6, rfl⟩ := nodesV_slice hn6; clear hb6 hn6 hans)
            clear s0 s1
            obtain ⟨T6, hT6⟩ : ∃ T, T = u6.alloc (.cells (keepV (.slice q6 l.length c6) nx) 24) := ⟨_, rfl⟩
            have HX6 : Hid (NodesV T6 (.slice q6 l.length c6) l) := Lib.hid (by rw [hT6]; exact nodesV_step _ HN6.out)
            have HK6 : Hid (∀ w, Below T6.heap.size T6 w → ((((((Keep W (keepV (.slice q ns.length c) nx) w) ∧ w.heap[G1]? = some (.cells (keepV (.slice q1 mL.length c1) mx) 24) ∧ NodesV w (.slice q1 mL.length c1) mL) ∧ w.heap[G2]? = some (.cells (keepV (.slice q2 mL.length c2) mx) 24) ∧ NodesV w (.slice q2 mL.length c2) mL) ∧ w.heap[G3]? = some (.cells (keepV (.slice q3 rL.length c3) nx) 24) ∧ NodesV w (.slice q3 rL.length c3) rL) ∧ w.heap[G4]? = some (.cells (keepV (.slice q4 rL.length c4) nx) 24) ∧ NodesV w (.slice q4 rL.length c4) rL) ∧ w.heap[G5]? = some (.cells (keepV (.slice q5 l.length c5) nx) 24) ∧ NodesV w (.slice q5 l.length c5) l) ∧ w.heap[u6.heap.size]? = some (.cells (keepV (.slice q6 l.length c6) nx) 24) ∧ NodesV w (.slice q6 l.length c6) l) := Lib.hid (fun w h => by have hx := HX6.out.below h; rw [hT6] at h; exact ⟨HK5.out w (below_step HC6.out h).1, (below_step HC6.out h).2, hx⟩)
            rw [← hT6]
            clear hT6 HX6 HN6 HC6
            obtain ⟨G6, hG6⟩ : ∃ G, G = u6.heap.size := ⟨_, rfl⟩
            rw [← hG6] at HK6 ⊢
            clear hG6
            clear HK5 HNR
            have s0 := cell_at (o := 0) (HK6.out T6 (Below.refl _ _)).1.1.1.1.1.1.2 rfl
            have s1 := cell_at (o := 1) (HK6.out T6 (Below.refl _ _)).1.1.1.1.1.1.2 rfl
            go_upto_region 10 with (go_at_call 17; refine (HPT.out _ (HK6.out T6 (Below.refl _ _)).1.1.1.1.1.1.1).mono ?_; rintro e u7 ⟨v7, rfl, hn7, hb7⟩; have HC7 := Lib.hid hb7; have HN7 := Lib.hid hn7; obtain ⟨q7, c7, rfl⟩ := nodesV_slice hn7; clear hb7 hn7)
            clear s0 s1
            obtain ⟨T7, hT7⟩ : ∃ T, T = u7.alloc (.cells (keepV (.slice q7 pL.length c7) nx) 24) := ⟨_, rfl⟩
            have HX7 : Hid (NodesV T7 (.slice q7 pL.length c7) pL) := Lib.hid (by rw [hT7]; exact nodesV_step _ HN7.out)
            have HK7 : Hid (∀ w, Below T7.heap.size T7 w → (((((((Keep W (keepV (.slice q ns.length c) nx) w) ∧ w.heap[G1]? = some (.cells (keepV (.slice q1 mL.length c1) mx) 24) ∧ NodesV w (.slice q1 mL.length c1) mL) ∧ w.heap[G2]? = some (.cells (keepV (.slice q2 mL.length c2) mx) 24) ∧ NodesV w (.slice q2 mL.length c2) mL) ∧ w.heap[G3]? = some (.cells (keepV (.slice q3 rL.length c3) nx) 24) ∧ NodesV w (.slice q3 rL.length c3) rL) ∧ w.heap[G4]? = some (.cells (keepV (.slice q4 rL.length c4) nx) 24) ∧ NodesV w (.slice q4 rL.length c4) rL) ∧ w.heap[G5]? = some (.cells (keepV (.slice q5 l.length c5) nx) 24) ∧ NodesV w (.slice q5 l.length c5) l) ∧ w.heap[G6]? = some (.cells (keepV (.slice q6 l.length c6) nx) 24) ∧ NodesV w (.slice q6 l.length c6) l) ∧ w.heap[u7.heap.size]? = some (.cells (keepV (.slice q7 pL.length c7) nx) 24) ∧ NodesV w (.slice q7 pL.length c7) pL) := Lib.hid (fun w h => by have hx := HX7.out.below h; rw [hT7] at h; exact ⟨HK6.out w (below_step HC7.out h).1, (below_step HC7.out h).2, hx⟩)
            rw [← hT7]
            clear hT7 HX7 HN7 HC7
            obtain ⟨G7, hG7⟩ : ∃ G, G = u7.heap.size := ⟨_, rfl⟩
            rw [← hG7] at HK7 ⊢
            clear hG7
            clear HK6 HPT
            have s0 := cell_at (o := 0) (HK7.out T7 (Below.refl _ _)).1.1.1.1.1.1.1.2 rfl
            have s1 := cell_at (o := 1) (HK7.out T7 (Below.refl _ _)).1.1.1.1.1.1.1.2 rfl
            go_upto_region 11 with (go_at_call 18; refine (HPR.out _ (HK7.out T7 (Below.refl _ _)).1.1.1.1.1.1.1.1).mono ?_; rintro e u8 ⟨v8, rfl, hn8, hb8⟩; have HC8 := Lib.hid hb8; have HN8 := Lib.hid hn8; obtain ⟨q8, c8, rfl⟩ := nodesV_slice hn8; clear hb8 hn8)
            clear s0 s1
            obtain ⟨T8, hT8⟩ : ∃ T, T = u8.alloc (.cells (keepV (.slice q8 pL.length c8) nx) 24) := ⟨_, rfl⟩
            have HX8 : Hid (NodesV T8 (.slice q8 pL.length c8) pL) := Lib.hid (by rw [hT8]; exact nodesV_step _ HN8.out)
            have HK8 : Hid (∀ w, Below T8.heap.size T8 w → ((((((((Keep W (keepV (.slice q ns.length c) nx) w) ∧ w.heap[G1]? = some (.cells (keepV (.slice q1 mL.length c1) mx) 24) ∧ NodesV w (.slice q1 mL.length c1) mL) ∧ w.heap[G2]? = some (.cells (keepV (.slice q2 mL.length c2) mx) 24) ∧ NodesV w (.slice q2 mL.length c2) mL) ∧ w.heap[G3]? = some (.cells (keepV (.slice q3 rL.length c3) nx) 24) ∧ NodesV w (.slice q3 rL.length c3) rL) ∧ w.heap[G4]? = some (.cells (keepV (.slice q4 rL.length c4) nx) 24) ∧ NodesV w (.slice q4 rL.length c4) rL) ∧ w.heap[G5]? = some (.cells (keepV (.slice q5 l.length c5) nx) 24) ∧ NodesV w (.slice q5 l.length c5) l) ∧ w.heap[G6]? = some (.cells (keepV (.slice q6 l.length c6) nx) 24) ∧ NodesV w (.slice q6 l.length c6) l) ∧ w.heap[G7]? = some (.cells (keepV (.slice q7 pL.length c7) nx) 24) ∧ NodesV w (.slice q7 pL.length c7) pL) ∧ w.heap[u8.heap.size]? = some (.cells (keepV (.slice q8 pL.length c8) nx) 24) ∧ NodesV w (.slice q8 pL.length c8) pL) := Lib.hid (fun w h => by have hx := HX8.out.below h; rw [hT8] at h; exact ⟨HK7.out w (below_step HC8.out h).1, (below_step HC8.out h).2, hx⟩)
            rw [← hT8]
            clear hT8 HX8 HN8 HC8
            obtain ⟨G8, hG8⟩ : ∃ G, G = u8.heap.size := ⟨_, rfl⟩
            rw [← hG8] at HK8 ⊢
            clear hG8
            clear HK7 HPR
            clear HRF HRS HAN
            have x10 := cell_at (o := 0) (HK8.out T8 (Below.refl _ _)).1.1.1.1.1.1.1.2.1 rfl
            have x11 := cell_at (o := 1) (HK8.out T8 (Below.refl _ _)).1.1.1.1.1.1.1.2.1 rfl
            have x20 := cell_at (o := 0) (HK8.out T8 (Below.refl _ _)).1.1.1.1.1.1.2.1 rfl
            have x21 := cell_at (o := 1) (HK8.out T8 (Below.refl _ _)).1.1.1.1.1.1.2.1 rfl
            go_wp2_with (first
              | (have hqq := HQ8; clear hqq; go_at_call 8; refine (HAW.out _).mono ?_; rintro e r9 ⟨rfl, hq9⟩; have HBF := Lib.hid ((HK8.out _ (HQ8.out.trans (hq9.mono HQ8.out.size))).1.1.1.1.1.1.1.1.1); clear hq9)
              | (have hqq := HQ7; clear hqq; go_at_call 7; refine (HFY.out _ _ _ _ HF4.out (HK8.out r7 HQ7.out).1.2.2).mono ?_; rintro e r8 ⟨rfl, hq8⟩; have HQ8 := Lib.hid (HQ7.out.trans (hq8.mono HQ7.out.size)); clear hq8)
              | (have hqq := HQ6; clear hqq; go_at_call 7; refine (HFY.out _ _ _ _ HF3.out (HK8.out r6 HQ6.out).1.1.1.2.2).mono ?_; rintro e r7 ⟨rfl, hq7⟩; have HQ7 := Lib.hid (HQ6.out.trans (hq7.mono HQ6.out.size)); clear hq7; have y770 := cell_at (o := 0) (HK8.out r7 HQ7.out).1.2.1 rfl; have y771 := cell_at (o := 1) (HK8.out r7 HQ7.out).1.2.1 rfl)
              | (have hqq := HQ5; clear hqq; go_at_call 7; refine (HFY.out _ _ _ _ HF2.out (HK8.out r5 HQ5.out).1.1.1.1.1.2.2).mono ?_; rintro e r6 ⟨rfl, hq6⟩; have HQ6 := Lib.hid (HQ5.out.trans (hq6.mono HQ5.out.size)); clear hq6; have y650 := cell_at (o := 0) (HK8.out r6 HQ6.out).1.1.1.2.1 rfl; have y651 := cell_at (o := 1) (HK8.out r6 HQ6.out).1.1.1.2.1 rfl)
              | (have hqq := HQ4; clear hqq; go_at_call 7; refine (HFY.out _ _ _ _ HF1.out (HK8.out r4 HQ4.out).1.1.1.1.1.1.1.2.2).mono ?_; rintro e r5 ⟨rfl, hq5⟩; have HQ5 := Lib.hid (HQ4.out.trans (hq5.mono HQ4.out.size)); clear hq5; have y530 := cell_at (o := 0) (HK8.out r5 HQ5.out).1.1.1.1.1.2.1 rfl; have y531 := cell_at (o := 1) (HK8.out r5 HQ5.out).1.1.1.1.1.2.1 rfl)
              | (have hqq := HQ3; clear hqq; go_at_call 11; refine (HSA.out _ _ _ _ _ HF4.out (HK8.out r3 HQ3.out).1.2.2 (HK8.out r3 HQ3.out).2.2).mono ?_; rintro e r4 ⟨rfl, hq4⟩; have HQ4 := Lib.hid (HQ3.out.trans (hq4.mono HQ3.out.size)); clear hq4; have y410 := cell_at (o := 0) (HK8.out r4 HQ4.out).1.1.1.1.1.1.1.2.1 rfl; have y411 := cell_at (o := 1) (HK8.out r4 HQ4.out).1.1.1.1.1.1.1.2.1 rfl)
              | (have hqq := HQ2; clear hqq; go_at_call 11; refine (HSA.out _ _ _ _ _ HF3.out (HK8.out r2 HQ2.out).1.1.1.2.2 (HK8.out r2 HQ2.out).1.1.2.2).mono ?_; rintro e r3 ⟨rfl, hq3⟩; have HQ3 := Lib.hid (HQ2.out.trans (hq3.mono HQ2.out.size)); clear hq3; have y370 := cell_at (o := 0) (HK8.out r3 HQ3.out).1.2.1 rfl; have y371 := cell_at (o := 1) (HK8.out r3 HQ3.out).1.2.1 rfl; have y380 := cell_at (o := 0) (HK8.out r3 HQ3.out).2.1 rfl; have y381 := cell_at (o := 1) (HK8.out r3 HQ3.out).2.1 rfl)
              | (have hqq := HQ1; clear hqq; go_at_call 11; refine (HSA.out _ _ _ _ _ HF2.out (HK8.out r1 HQ1.out).1.1.1.1.1.2.2 (HK8.out r1 HQ1.out).1.1.1.1.2.2).mono ?_; rintro e r2 ⟨rfl, hq2⟩; have HQ2 := Lib.hid (HQ1.out.trans (hq2.mono HQ1.out.size)); clear hq2; have y250 := cell_at (o := 0) (HK8.out r2 HQ2.out).1.1.1.2.1 rfl; have y251 := cell_at (o := 1) (HK8.out r2 HQ2.out).1.1.1.2.1 rfl; have y260 := cell_at (o := 0) (HK8.out r2 HQ2.out).1.1.2.1 rfl; have y261 := cell_at (o := 1) (HK8.out r2 HQ2.out).1.1.2.1 rfl)
              | (go_at_call 11; refine (HSA.out _ _ _ _ _ HF1.out (HK8.out T8 (Below.refl _ _)).1.1.1.1.1.1.1.2.2 (HK8.out T8 (Below.refl _ _)).1.1.1.1.1.1.2.2).mono ?_; rintro e r1 ⟨rfl, hq1⟩; have HQ1 := Lib.hid hq1; clear hq1; have y130 := cell_at (o := 0) (HK8.out r1 HQ1.out).1.1.1.1.1.2.1 rfl; have y131 := cell_at (o := 1) (HK8.out r1 HQ1.out).1.1.1.1.1.2.1 rfl; have y140 := cell_at (o := 0) (HK8.out r1 HQ1.out).1.1.1.1.2.1 rfl; have y141 := cell_at (o := 1) (HK8.out r1 HQ1.out).1.1.1.1.2.1 rfl))
            go_ret
            exact ⟨rfl, HBF.out⟩
          · have hdi : (40000 : Int) < d.length := by omega
            clear hN hN0 hs hnx hb hf1 hf2 hpl hfit htl hdl
            go_enter Tryz.func5, Tryz.ntmps5
            go_wp2_with (first
              | (go_at_call 6; refine (HFW.out _ ((Below.refl _ _).alloc (Nat.le_refl _) _)).mono ?_; rintro e w1 ⟨rfl, hb1⟩; have HB1 := Lib.hid hb1; have z10 := cell_at (o := 0) (HZ.out _ hb1).2 rfl; have z11 := cell_at (o := 1) (HZ.out _ hb1).2 rfl; clear hb1)
              | (go_at_call 7; refine (HFI.out _ (HZ.out _ HB1.out).1).mono ?_; rintro e w2 ⟨rfl, hb2⟩; have HB2 := Lib.hid (HB1.out.trans (hb2.mono HB1.out.size)); have z20 := cell_at (o := 0) (HZ.out _ HB2.out).2 rfl; have z21 := cell_at (o := 1) (HZ.out _ HB2.out).2 rfl; clear hb2)
              | (go_at_call 8; refine (HAW.out _).mono ?_; rintro e w9 ⟨rfl, hb9⟩; have HB9 := Lib.hid (HB2.out.trans (hb9.mono HB2.out.size)); clear hb9))
            go_ret
            exact ⟨rfl, (HZ.out _ HB9.out).1⟩
        · have hti : (600 : Int) < tw.length := by omega
          clear hN hN0 hs hnx hb hf1 hf2 hpl hfit htl
          go_enter Tryz.func5, Tryz.ntmps5
          go_wp2_with (first
            | (go_at_call 6; refine (HFW.out _ ((Below.refl _ _).alloc (Nat.le_refl _) _)).mono ?_; rintro e w1 ⟨rfl, hb1⟩; have HB1 := Lib.hid hb1; have z10 := cell_at (o := 0) (HZ.out _ hb1).2 rfl; have z11 := cell_at (o := 1) (HZ.out _ hb1).2 rfl; clear hb1)
            | (go_at_call 7; refine (HFI.out _ (HZ.out _ HB1.out).1).mono ?_; rintro e w2 ⟨rfl, hb2⟩; have HB2 := Lib.hid (HB1.out.trans (hb2.mono HB1.out.size)); have z20 := cell_at (o := 0) (HZ.out _ HB2.out).2 rfl; have z21 := cell_at (o := 1) (HZ.out _ HB2.out).2 rfl; clear hb2)
            | (go_at_call 8; refine (HAW.out _).mono ?_; rintro e w9 ⟨rfl, hb9⟩; have HB9 := Lib.hid (HB2.out.trans (hb9.mono HB2.out.size)); clear hb9))
          go_ret
          exact ⟨rfl, (HZ.out _ HB9.out).1⟩
      · have hpi : (600 : Int) < p.length := by omega
        clear hN hN0 hs hnx hb hf1 hf2 hpl hfit
        go_enter Tryz.func5, Tryz.ntmps5
        go_wp2_with (first
          | (go_at_call 6; refine (HFW.out _ ((Below.refl _ _).alloc (Nat.le_refl _) _)).mono ?_; rintro e w1 ⟨rfl, hb1⟩; have HB1 := Lib.hid hb1; have z10 := cell_at (o := 0) (HZ.out _ hb1).2 rfl; have z11 := cell_at (o := 1) (HZ.out _ hb1).2 rfl; clear hb1)
          | (go_at_call 7; refine (HFI.out _ (HZ.out _ HB1.out).1).mono ?_; rintro e w2 ⟨rfl, hb2⟩; have HB2 := Lib.hid (HB1.out.trans (hb2.mono HB1.out.size)); have z20 := cell_at (o := 0) (HZ.out _ HB2.out).2 rfl; have z21 := cell_at (o := 1) (HZ.out _ HB2.out).2 rfl; clear hb2)
          | (go_at_call 8; refine (HAW.out _).mono ?_; rintro e w9 ⟨rfl, hb9⟩; have HB9 := Lib.hid (HB2.out.trans (hb9.mono HB2.out.size)); clear hb9))
        go_ret
        exact ⟨rfl, (HZ.out _ HB9.out).1⟩
end Go.Proofs.YtlpgandflkabcaaGreatDoor
