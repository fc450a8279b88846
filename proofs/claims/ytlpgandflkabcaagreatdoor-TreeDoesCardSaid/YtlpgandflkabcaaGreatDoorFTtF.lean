/-
  A keeper's free and move.
-/
import Derived.Test.YtlpgandflkabcaaGreatDoorFTtE
namespace Go.Proofs.YtlpgandflkabcaaGreatDoor
open Go Go.RowKit Go.Shelf
set_option linter.unusedVariables false
set_option linter.unusedSimpArgs false

def freeE (ns : List NodeD) (x : NodeD) (tw : List UInt8) : Int :=
  if hasS ns tw = true then (if (foundN ns tw).dir = true ∧ x.dir = false then 21 else if (foundN ns tw).dir = false ∧ x.dir = true then 20 else if filledN ns tw = true then 39 else 0) else 0
theorem free_any (ns : List NodeD) (hr : RiseS ns) (hlen : ns.length ≤ 1000000) (x : NodeD) (tw : List UInt8) (hto : pathB tw = true) (kb : Nat) (t : TypeId) (v : Value) (nx : Int) (W : World) (hk : W.heap[kb]? = some (.cells (keepV v nx) t)) (hN : NodesV W v ns) :
    Calls Tryz.prog 33 #[.pointer (some ⟨kb, 0, none⟩), .agg (nodeV x), .string (mkB tw)] W fun e w' => e = .returned (.int .i64 (freeE ns x tw)) ∧ Below W.heap.size W w' := by
  obtain ⟨q, c, rfl, hN0⟩ := hN
  have hN : NodesV W (.slice q ns.length c) ns := ⟨q, c, rfl, hN0⟩
  have hkb := heap_lt hk
  obtain ⟨W1, hW1⟩ : ∃ W1, W1 = W.alloc (.cells (nodeV x) 28) := ⟨_, rfl⟩
  have HW1 : Hid (Below W.heap.size W W1 ∧ W1.heap.size = W.heap.size + 1 ∧ W1.heap[W.heap.size]? = some (.cells (nodeV x) 28) ∧ W1.heap[kb]? = some (.cells (keepV (.slice q ns.length c) nx) t)) := Lib.hid (by
    rw [hW1]
    exact ⟨(Below.refl _ _).alloc (Nat.le_refl _) _, heap_len _ _, heap_new _ _ _ rfl, (heap_old _ _ _ hkb).trans hk⟩)
  have HAT : Hid (Calls Tryz.prog 27 #[.pointer (some ⟨kb, 0, none⟩), .string (mkB tw)] W1 fun e w' => e = .returned (.tuple #[.int .i64 (lowS ns tw : Nat), .bool (hasS ns tw)]) ∧ Below W1.heap.size W1 w') := Lib.hid (at_any ns hr hlen tw kb _ _ nx W1 HW1.out.2.2.2 (hN.below HW1.out.1))
  have HFL : Hid (∀ W', Below W1.heap.size W1 W' → Calls Tryz.prog 30 #[.pointer (some ⟨kb, 0, none⟩), .string (mkB tw)] W' fun e w' => e = .returned (.bool (filledN ns tw)) ∧ Below W'.heap.size W' w') := Lib.hid (fun W' hb => filled_any ns hlen tw hto kb _ _ nx W' ((hb.block _ (heap_lt HW1.out.2.2.2)).trans HW1.out.2.2.2) (hN.below (HW1.out.1.trans (hb.mono HW1.out.1.size))))
  have HFE : Hid (freeE ns x tw = if hasS ns tw = true then (if (foundN ns tw).dir = true ∧ x.dir = false then 21 else if (foundN ns tw).dir = false ∧ x.dir = true then 20 else if filledN ns tw = true then 39 else 0) else 0) := Lib.hid rfl
  generalize freeE ns x tw = fe at HFE ⊢
  cases hh : hasS ns tw
  · rw [hh] at HAT
    obtain rfl : fe = 0 := by rw [HFE.out, hh]; rfl
    clear hN hN0 hk hr hlen hto HFL HFE
    go_enter Tryz.func33, Tryz.ntmps33
    go_upto_region 1 with fail
    rw [← hW1]
    clear hW1
    go_wp2_with (go_at_call 27; refine HAT.out.mono ?_; rintro e w1 ⟨rfl, hb1⟩; have HB1 := Lib.hid hb1; clear hb1)
    go_ret
    exact ⟨rfl, HW1.out.1.trans (HB1.out.mono HW1.out.1.size)⟩
  · rw [hh] at HAT
    obtain ⟨hk2, hkp⟩ := (hasS_at hr).1 hh
    have hfo := foundN_at hr (findE_hit hto hh) hk2 hkp
    obtain ⟨k, hlk⟩ : ∃ k, lowS ns tw = k := ⟨_, rfl⟩
    simp only [hlk] at hk2 hkp hfo
    rw [hfo] at HFE
    replace HFE := Lib.hid (HFE.out.trans (by rw [hh, if_pos rfl]))
    rw [hlk] at HAT
    obtain ⟨b, off, rfl, hrow⟩ := hN0 (nonil hk2)
    have HC1 : Hid (∀ W', Below W1.heap.size W1 W' → W'.cell? ⟨b, off + k * 4 + 1, none⟩ = some (.bool ns[k].dir) ∧ W'.heap[kb]? = some (.cells (keepV (.slice (some ⟨b, off, none⟩) ns.length c) nx) t) ∧ W'.heap[W.heap.size]? = some (.cells (nodeV x) 28)) := Lib.hid (fun W' hb => ⟨(hrow.below (HW1.out.1.trans (hb.mono HW1.out.1.size))).c1 k hk2, (hb.block _ (heap_lt HW1.out.2.2.2)).trans HW1.out.2.2.2, (hb.block _ (heap_lt HW1.out.2.2.1)).trans HW1.out.2.2.1⟩)
    have hki : (k : Int) < ns.length := by omega
    have hli : (ns.length : Int) ≤ 1000000 := by omega
    clear hN hN0 hk hr hlen hto hrow hh hkp hfo
    generalize ns[k].dir = yd at HC1 HFE
    have HXC : Hid (∀ W' : World, W'.heap[W.heap.size]? = some (.cells (nodeV x) 28) → W'.cell? ⟨W.heap.size, 1, none⟩ = some (.bool x.dir)) := Lib.hid (fun W' h => cell_at (o := 1) h rfl)
    cases yd <;> cases hxd : x.dir
    · rw [hxd] at HXC
      cases hfl : filledN ns tw
      · obtain rfl : fe = 0 := by rw [HFE.out, hxd, hfl]; rfl
        rw [hfl] at HFL
        clear HFE
        go_enter Tryz.func33, Tryz.ntmps33
        go_upto_region 1 with fail
        rw [← hW1]
        clear hW1
        go_wp2_with (first
          | (go_at_call 27; refine HAT.out.mono ?_; rintro e w1 ⟨rfl, hb1⟩; have HB1 := Lib.hid hb1; have y1 := (HC1.out _ hb1).1; have k0 := cell_at (o := 0) (HC1.out _ hb1).2.1 rfl; have x1 := HXC.out _ (HC1.out _ hb1).2.2; clear hb1)
          | (go_at_call 30; refine (HFL.out _ HB1.out).mono ?_; rintro e w2 ⟨rfl, hb2⟩; have HB2 := Lib.hid (HB1.out.trans (hb2.mono HB1.out.size)); clear hb2))
        go_ret
        exact ⟨rfl, HW1.out.1.trans (HB2.out.mono HW1.out.1.size)⟩
      · obtain rfl : fe = 39 := by rw [HFE.out, hxd, hfl]; rfl
        rw [hfl] at HFL
        clear HFE
        go_enter Tryz.func33, Tryz.ntmps33
        go_upto_region 1 with fail
        rw [← hW1]
        clear hW1
        go_wp2_with (first
          | (go_at_call 27; refine HAT.out.mono ?_; rintro e w1 ⟨rfl, hb1⟩; have HB1 := Lib.hid hb1; have y1 := (HC1.out _ hb1).1; have k0 := cell_at (o := 0) (HC1.out _ hb1).2.1 rfl; have x1 := HXC.out _ (HC1.out _ hb1).2.2; clear hb1)
          | (go_at_call 30; refine (HFL.out _ HB1.out).mono ?_; rintro e w2 ⟨rfl, hb2⟩; have HB2 := Lib.hid (HB1.out.trans (hb2.mono HB1.out.size)); clear hb2))
        go_ret
        exact ⟨rfl, HW1.out.1.trans (HB2.out.mono HW1.out.1.size)⟩
    · rw [hxd] at HXC
      obtain rfl : fe = 20 := by rw [HFE.out, hxd]; rfl
      clear HFE
      go_enter Tryz.func33, Tryz.ntmps33
      go_upto_region 1 with fail
      rw [← hW1]
      clear hW1
      go_wp2_with (first
        | (go_at_call 27; refine HAT.out.mono ?_; rintro e w1 ⟨rfl, hb1⟩; have HB1 := Lib.hid hb1; have y1 := (HC1.out _ hb1).1; have k0 := cell_at (o := 0) (HC1.out _ hb1).2.1 rfl; have x1 := HXC.out _ (HC1.out _ hb1).2.2; clear hb1))
      go_ret
      exact ⟨rfl, HW1.out.1.trans (HB1.out.mono HW1.out.1.size)⟩
    · rw [hxd] at HXC
      obtain rfl : fe = 21 := by rw [HFE.out, hxd]; rfl
      clear HFE
      go_enter Tryz.func33, Tryz.ntmps33
      go_upto_region 1 with fail
      rw [← hW1]
      clear hW1
      go_wp2_with (first
        | (go_at_call 27; refine HAT.out.mono ?_; rintro e w1 ⟨rfl, hb1⟩; have HB1 := Lib.hid hb1; have y1 := (HC1.out _ hb1).1; have k0 := cell_at (o := 0) (HC1.out _ hb1).2.1 rfl; have x1 := HXC.out _ (HC1.out _ hb1).2.2; clear hb1))
      go_ret
      exact ⟨rfl, HW1.out.1.trans (HB1.out.mono HW1.out.1.size)⟩
    · rw [hxd] at HXC
      cases hfl : filledN ns tw
      · obtain rfl : fe = 0 := by rw [HFE.out, hxd, hfl]; rfl
        rw [hfl] at HFL
        clear HFE
        go_enter Tryz.func33, Tryz.ntmps33
        go_upto_region 1 with fail
        rw [← hW1]
        clear hW1
        go_wp2_with (first
          | (go_at_call 27; refine HAT.out.mono ?_; rintro e w1 ⟨rfl, hb1⟩; have HB1 := Lib.hid hb1; have y1 := (HC1.out _ hb1).1; have k0 := cell_at (o := 0) (HC1.out _ hb1).2.1 rfl; have x1 := HXC.out _ (HC1.out _ hb1).2.2; clear hb1)
          | (go_at_call 30; refine (HFL.out _ HB1.out).mono ?_; rintro e w2 ⟨rfl, hb2⟩; have HB2 := Lib.hid (HB1.out.trans (hb2.mono HB1.out.size)); clear hb2))
        go_ret
        exact ⟨rfl, HW1.out.1.trans (HB2.out.mono HW1.out.1.size)⟩
      · obtain rfl : fe = 39 := by rw [HFE.out, hxd, hfl]; rfl
        rw [hfl] at HFL
        clear HFE
        go_enter Tryz.func33, Tryz.ntmps33
        go_upto_region 1 with fail
        rw [← hW1]
        clear hW1
        go_wp2_with (first
          | (go_at_call 27; refine HAT.out.mono ?_; rintro e w1 ⟨rfl, hb1⟩; have HB1 := Lib.hid hb1; have y1 := (HC1.out _ hb1).1; have k0 := cell_at (o := 0) (HC1.out _ hb1).2.1 rfl; have x1 := HXC.out _ (HC1.out _ hb1).2.2; clear hb1)
          | (go_at_call 30; refine (HFL.out _ HB1.out).mono ?_; rintro e w2 ⟨rfl, hb2⟩; have HB2 := Lib.hid (HB1.out.trans (hb2.mono HB1.out.size)); clear hb2))
        go_ret
        exact ⟨rfl, HW1.out.1.trans (HB2.out.mono HW1.out.1.size)⟩
def mvN (fr tw : List UInt8) (x : NodeD) : NodeD := if (x.path == fr) = true ∨ belowQ x.path fr = true then { x with path := tw ++ Lib.trimPrefix x.path fr } else x
def mvTo (fr tw : List UInt8) (ns : List NodeD) (k : Nat) : List NodeD := (ns.take k).map (mvN fr tw) ++ ns.drop k
theorem mvTo_len (fr tw : List UInt8) (ns : List NodeD) (k : Nat) : (mvTo fr tw ns k).length = ns.length := by
  rw [mvTo, List.length_append, List.length_map, List.length_take, List.length_drop]; omega
theorem mvTo_at (fr tw : List UInt8) {ns : List NodeD} {k : Nat} (hk : k < ns.length) (h : k < (mvTo fr tw ns k).length) : (mvTo fr tw ns k)[k] = ns[k] := by
  have hl : ((ns.take k).map (mvN fr tw)).length = k := by rw [List.length_map, List.length_take]; omega
  have h2 : (mvTo fr tw ns k)[k]? = ns[k]? := by rw [mvTo, List.getElem?_append_right (by omega), hl, Nat.sub_self, List.getElem?_drop, Nat.add_zero]
  rw [List.getElem?_eq_getElem h, List.getElem?_eq_getElem hk] at h2
  exact Option.some.inj h2
theorem mvTo_next (fr tw : List UInt8) {ns : List NodeD} {k : Nat} (hk : k < ns.length) : mvTo fr tw ns (k + 1) = (mvTo fr tw ns k).set k (mvN fr tw ns[k]) := by
  have hl : ((ns.take k).map (mvN fr tw)).length = k := by rw [List.length_map, List.length_take]; omega
  rw [mvTo, mvTo, List.set_append_right _ _ (by omega), hl, Nat.sub_self, List.take_succ_eq_append_getElem hk, List.map_append, List.drop_eq_getElem_cons hk, List.set_cons_zero]
  simp
theorem mvTo_same (fr tw : List UInt8) {ns : List NodeD} {k : Nat} (hk : k < ns.length) (h : mvN fr tw ns[k] = ns[k]) : mvTo fr tw ns (k + 1) = mvTo fr tw ns k := by
  rw [mvTo_next fr tw hk, h]
  have h2 : k < (mvTo fr tw ns k).length := by rw [mvTo_len]; exact hk
  have h3 := mvTo_at fr tw hk h2
  conv => lhs; rw [← h3]
  exact List.set_getElem_self h2
theorem mvTo_all (fr tw : List UInt8) (ns : List NodeD) : mvTo fr tw ns ns.length = ns.map (mvN fr tw) := by
  rw [mvTo, List.take_length, List.drop_length, List.append_nil]
theorem trimP_le (s p : List UInt8) : (Lib.trimPrefix s p).length ≤ s.length := by
  unfold Lib.trimPrefix
  split
  · rw [List.length_drop]; omega
  · exact Nat.le_refl _
def LongN (fr tw : List UInt8) (ns : List NodeD) : Prop := ∃ j, ∃ hj : j < ns.length, 255 < (mvN fr tw ns[j]).path.length
set_option maxRecDepth 100000 in
set_option maxHeartbeats 4000000 in
theorem move_any (ns : List NodeD) (hlen : ns.length ≤ 1000) (hne : 0 < ns.length) (hps : ∀ k (h : k < ns.length), ns[k].path.length ≤ 1000) (fr tw : List UInt8) (hfr : pathB fr = true) (hto : tw.length ≤ 255) (kb : Nat) (t : TypeId) (v : Value) (nx : Int) (W : World) (hk : W.heap[kb]? = some (.cells (keepV v nx) t)) (hN : NodesV W v ns) :
    Calls Tryz.prog 34 #[.pointer (some ⟨kb, 0, none⟩), .string (mkB fr), .string (mkB tw)] W fun e w' =>
      (e = .returned (.int .i64 36) ∧ LongN fr tw ns ∧ Below W.heap.size W w') ∨ (e = .returned (.int .i64 0) ∧ ¬ LongN fr tw ns ∧ KeptBut kb W w' ∧ ∃ v' S, w'.heap[kb]? = some (.cells (keepV v' nx) t) ∧ S.Perm (ns.map (mvN fr tw)) ∧ S.Pairwise (fun a b => ¬ b.path < a.path) ∧ w'.ownsRow W.heap.size 28 4 v' S.length (nodeVs S)) := by
  have hmf : ∀ (fn : Fn) (first cap : Array Value) (w : World), (Instr.makeFunc fn first cap).run Tryz.prog w = .ok (.func fn first cap) w := fun _ _ _ _ => rfl
  obtain ⟨q, c, rfl, hN0⟩ := hN
  have hN : NodesV W (.slice q ns.length c) ns := ⟨q, c, rfl, hN0⟩
  have hkb := heap_lt hk
  have HCL := Lib.hid (cloneN_any ns (by omega) _ W hN)
  have k0 := cell_at (o := 0) hk rfl
  have HKB := Lib.hid (And.intro hkb hk)
  have hli : (ns.length : Int) ≤ 1000 := by omega
  have hfl := path_len hfr
  have HBQ : Hid (∀ (s : List UInt8) (w : World), Calls Tryz.prog 32 #[.string (mkB s), .string (mkB fr)] w fun e w' => e = .returned (.bool (belowQ s fr)) ∧ w' = w) := Lib.hid (fun s w => below_any s fr hfr w)
  have HTP : Hid (∀ (s : List UInt8) (w : World), Calls Tryz.prog 65 #[.string (mkB s), .string (mkB fr)] w fun e w' => e = .returned (.string (mkB (Lib.trimPrefix s fr))) ∧ w' = w) := Lib.hid (fun s w => (Tryz.strings_TrimPrefix (mkB s) (mkB fr) w).mono fun e w' h => ⟨by rw [h.1, mkB_list, mkB_list]; rfl, h.2⟩)
  have HPS := Lib.hid hps
  have hzt := mkB_size tw
  have hti : (tw.length : Int) ≤ 255 := by omega
  have HLEN := Lib.hid hlen
  clear hN hN0 hk hkb hps hlen hfr hfl hto
  go_enter Tryz.func34, Tryz.ntmps34
  go_upto_region 2 with (go_at_call 45; refine HCL.out.mono ?_; rintro e w2 ⟨v2, rfl, ho2, hb2⟩; have HB2 := Lib.hid hb2; have HO2 := Lib.hid ho2; clear hb2 ho2)
  obtain ⟨g, cap, rfl⟩ : ∃ g cap, v2 = .slice (some ⟨g, 0, none⟩) ns.length cap := by
    rcases HO2.out.2 with ⟨_, h0⟩ | ⟨g, cap, cur, hv, _⟩
    · omega
    · exact ⟨g, cap, hv⟩
  have HGB : Hid (W.heap.size ≤ g) := Lib.hid (by
    rcases HO2.out.2 with ⟨hv, _⟩ | ⟨g', cap', cur, hv, hB, _⟩
    · cases hv
    · cases hv; exact hB)
  clear k0
  go_wp2
  go_loopw [18] (fun iv wr => ∃ k : Nat, k ≤ ns.length ∧ iv = .int .i64 k ∧ Hid (Below W.heap.size W wr) ∧ Hid (wr.ownsRow W.heap.size 28 4 (.slice (some ⟨g, 0, none⟩) ns.length cap) ns.length (nodeVs (mvTo fr tw ns k))) ∧ Hid (∀ j (hj : j < ns.length), j < k → (mvN fr tw ns[j]).path.length ≤ 255)) (fun iv wr => ns.length - (intOf iv).toNat)
  case atStart => exact ⟨0, Nat.zero_le _, rfl, HB2, Lib.hid (by rw [mvTo, List.take_zero, List.map_nil, List.nil_append, List.drop_zero]; exact HO2.out), Lib.hid (fun j _ h => absurd h (Nat.not_lt_zero _))⟩
  case round =>
    obtain ⟨k, hk, rfl, HB, HO, HK⟩ := hrel
    by_cases hlt : k < ns.length
    · have hkR : k < (mvTo fr tw ns k).length := by rw [mvTo_len]; exact hlt
      have HX := Lib.hid (mvTo_at fr tw hlt hkR)
      obtain ⟨q', c', hv', hrow'⟩ := nodesV_of_own (by have := HO.out; rw [← mvTo_len fr tw ns k] at this; exact this)
      cases hv'
      obtain ⟨b', off', he', hrow⟩ := hrow' (nonil hkR)
      cases he'
      have c0 := hrow.c0 k hkR
      have c1 := hrow.c1 k hkR
      have c2 := hrow.c2 k hkR
      have c3 := hrow.c3 k hkR
      have hgl := hrow.lt
      rw [HX.out] at c0 c1 c2 c3
      simp only [Nat.zero_add] at c0 c1 c2 c3
      have hki : (k : Int) < ns.length := by omega
      have h1 : ((mkB ns[k].path).toList == (mkB fr).toList) = (ns[k].path == fr) := by rw [mkB_toList, mkB_toList]
      have hzp := mkB_size ns[k].path
      have hpi : (ns[k].path.length : Int) ≤ 1000 := by have := HPS.out k hlt; omega
      have HTK := Lib.hid (HTP.out ns[k].path)
      have HBK := Lib.hid (HBQ.out ns[k].path)
      clear hrow hrow'
      cases e1 : (ns[k].path == fr)
      · cases e2 : belowQ ns[k].path fr
        · have HCO : Hid (¬ ((ns[k].path == fr) = true ∨ belowQ ns[k].path fr = true)) := Lib.hid (by rw [e1, e2]; decide)
          have HBV := Lib.hid e2
          rw [e1] at h1
          clear e1 e2
          have HMV : Hid (mvN fr tw ns[k] = ns[k]) := Lib.hid (by rw [mvN, if_neg HCO.out])
          have HST := Lib.hid (mvTo_same fr tw hlt HMV.out)
          have e1 : ∀ o, (wr.alloc o).cell? ⟨g, k * 4, none⟩ = some (.string (mkB ns[k].path)) := fun o => (((Below.refl wr.heap.size wr).alloc (Nat.le_refl _) o).cell (p := ⟨g, k * 4, none⟩) hgl).trans c0
          by_cases h9 : ns[k].path.length ≤ 255
          · have h9i : (ns[k].path.length : Int) ≤ 255 := by omega
            have h9n : ¬ (255 : Int) < (ns[k].path.length : Int) := by omega
            have HSH : Hid ((mvN fr tw ns[k]).path.length ≤ 255) := Lib.hid (by rw [HMV.out]; exact h9)
            go_wp2_with (go_at_call 32; refine (HBK.out _).mono ?_; rintro e w5 ⟨rfl, rfl⟩; rw [HBV.out])
            go_roundw
            case rel => exact ⟨k + 1, by omega, by go_num, Lib.hid (HB.out.alloc HB.out.size _), Lib.hid (by rw [HST.out]; exact HO.out.alloc _), Lib.hid (fun j hj hjk => by
              rcases Nat.lt_or_eq_of_le (Nat.le_of_lt_succ hjk) with h | rfl
              · exact HK.out j hj h
              · exact HSH.out)⟩
            case measure => simp [intOf]; omega
          · have h9n : (255 : Int) < (ns[k].path.length : Int) := by omega
            have HSH : Hid (255 < (mvN fr tw ns[k]).path.length) := Lib.hid (by rw [HMV.out]; omega)
            go_wp2_with (go_at_call 32; refine (HBK.out _).mono ?_; rintro e w5 ⟨rfl, rfl⟩; rw [HBV.out])
            go_ret
            exact .inl ⟨rfl, ⟨k, hlt, HSH.out⟩, HB.out.alloc HB.out.size _⟩
        · have HCO : Hid ((ns[k].path == fr) = true ∨ belowQ ns[k].path fr = true) := Lib.hid (.inr e2)
          have HBV := Lib.hid e2
          rw [e1] at h1
          clear e1 e2
          obtain ⟨tr, htr⟩ : ∃ tr, tr = Lib.trimPrefix ns[k].path fr := ⟨_, rfl⟩
          have HMV : Hid (mvN fr tw ns[k] = { ns[k] with path := tw ++ tr }) := Lib.hid (by rw [mvN, if_pos HCO.out, htr])
          have htl : (tr.length : Int) ≤ 1000 := by have := trimP_le ns[k].path fr; rw [← htr] at this; omega
          rw [← htr] at HTK
          have hzr := mkB_size tr
          have hsp := own_setPath (i := k) (tw ++ tr) (mvTo_len fr tw ns k) hkR HO.out
          rw [HX.out, ← HMV.out, ← mvTo_next fr tw hlt] at hsp
          have HST := Lib.hid hsp.2.2
          have HBS : Hid (Below W.heap.size W (wr.setCell ⟨g, k * 4, none⟩ (.string (mkB tw ++ mkB tr)))) := Lib.hid (HB.out.setCell (p := ⟨g, k * 4, none⟩) HGB.out _)
          have e0 : ∀ o, (wr.alloc o).frozen? ⟨g, k * 4, none⟩ = false := fun o => (((Below.refl wr.heap.size wr).alloc (Nat.le_refl _) o).frozen (p := ⟨g, k * 4, none⟩) hgl).trans hsp.2.1
          have e1 : ∀ o, (wr.alloc o).cell? ⟨g, k * 4, none⟩ = some (.string (mkB ns[k].path)) := fun o => (((Below.refl wr.heap.size wr).alloc (Nat.le_refl _) o).cell (p := ⟨g, k * 4, none⟩) hgl).trans c0
          clear htr hsp
          by_cases h9 : tw.length + tr.length ≤ 255
          · have h9i : (tw.length : Int) + (tr.length : Int) ≤ 255 := by omega
            have h9n : ¬ (255 : Int) < (tw.length : Int) + (tr.length : Int) := by omega
            have HSH : Hid ((mvN fr tw ns[k]).path.length ≤ 255) := Lib.hid (by rw [HMV.out, List.length_append]; exact h9)
            go_wp2_with (first
              | (go_at_call 32; refine (HBK.out _).mono ?_; rintro e w5 ⟨rfl, rfl⟩; rw [HBV.out])
              | (go_at_call 65; refine (HTK.out _).mono ?_; rintro e w6 ⟨rfl, rfl⟩))
            go_roundw
            case rel => exact ⟨k + 1, by omega, by go_num, Lib.hid (HBS.out.alloc HBS.out.size _), Lib.hid (by rw [mkB_append]; exact HST.out.alloc _), Lib.hid (fun j hj hjk => by
              rcases Nat.lt_or_eq_of_le (Nat.le_of_lt_succ hjk) with h | rfl
              · exact HK.out j hj h
              · exact HSH.out)⟩
            case measure => simp [intOf]; omega
          · have h9n : (255 : Int) < (tw.length : Int) + (tr.length : Int) := by omega
            have HSH : Hid (255 < (mvN fr tw ns[k]).path.length) := Lib.hid (by rw [HMV.out, List.length_append]; omega)
            go_wp2_with (first
              | (go_at_call 32; refine (HBK.out _).mono ?_; rintro e w5 ⟨rfl, rfl⟩; rw [HBV.out])
              | (go_at_call 65; refine (HTK.out _).mono ?_; rintro e w6 ⟨rfl, rfl⟩))
            go_ret
            exact .inl ⟨rfl, ⟨k, hlt, HSH.out⟩, HBS.out.alloc HBS.out.size _⟩
      · have HCO : Hid ((ns[k].path == fr) = true ∨ belowQ ns[k].path fr = true) := Lib.hid (.inl e1)
        rw [e1] at h1
        clear e1
        obtain ⟨tr, htr⟩ : ∃ tr, tr = Lib.trimPrefix ns[k].path fr := ⟨_, rfl⟩
        have HMV : Hid (mvN fr tw ns[k] = { ns[k] with path := tw ++ tr }) := Lib.hid (by rw [mvN, if_pos HCO.out, htr])
        have htl : (tr.length : Int) ≤ 1000 := by have := trimP_le ns[k].path fr; rw [← htr] at this; omega
        rw [← htr] at HTK
        have hzr := mkB_size tr
        have hsp := own_setPath (i := k) (tw ++ tr) (mvTo_len fr tw ns k) hkR HO.out
        rw [HX.out, ← HMV.out, ← mvTo_next fr tw hlt] at hsp
        have HST := Lib.hid hsp.2.2
        have HBS : Hid (Below W.heap.size W (wr.setCell ⟨g, k * 4, none⟩ (.string (mkB tw ++ mkB tr)))) := Lib.hid (HB.out.setCell (p := ⟨g, k * 4, none⟩) HGB.out _)
        have e0 : ∀ o, (wr.alloc o).frozen? ⟨g, k * 4, none⟩ = false := fun o => (((Below.refl wr.heap.size wr).alloc (Nat.le_refl _) o).frozen (p := ⟨g, k * 4, none⟩) hgl).trans hsp.2.1
        have e1 : ∀ o, (wr.alloc o).cell? ⟨g, k * 4, none⟩ = some (.string (mkB ns[k].path)) := fun o => (((Below.refl wr.heap.size wr).alloc (Nat.le_refl _) o).cell (p := ⟨g, k * 4, none⟩) hgl).trans c0
        clear htr hsp
        by_cases h9 : tw.length + tr.length ≤ 255
        · have h9i : (tw.length : Int) + (tr.length : Int) ≤ 255 := by omega
          have h9n : ¬ (255 : Int) < (tw.length : Int) + (tr.length : Int) := by omega
          have HSH : Hid ((mvN fr tw ns[k]).path.length ≤ 255) := Lib.hid (by rw [HMV.out, List.length_append]; exact h9)
          go_wp2_with (first
            | (go_at_call 65; refine (HTK.out _).mono ?_; rintro e w6 ⟨rfl, rfl⟩))
          go_roundw
          case rel => exact ⟨k + 1, by omega, by go_num, Lib.hid (HBS.out.alloc HBS.out.size _), Lib.hid (by rw [mkB_append]; exact HST.out.alloc _), Lib.hid (fun j hj hjk => by
            rcases Nat.lt_or_eq_of_le (Nat.le_of_lt_succ hjk) with h | rfl
            · exact HK.out j hj h
            · exact HSH.out)⟩
          case measure => simp [intOf]; omega
        · have h9n : (255 : Int) < (tw.length : Int) + (tr.length : Int) := by omega
          have HSH : Hid (255 < (mvN fr tw ns[k]).path.length) := Lib.hid (by rw [HMV.out, List.length_append]; omega)
          go_wp2_with (first
            | (go_at_call 65; refine (HTK.out _).mono ?_; rintro e w6 ⟨rfl, rfl⟩))
          go_ret
          exact .inl ⟨rfl, ⟨k, hlt, HSH.out⟩, HBS.out.alloc HBS.out.size _⟩
    · obtain rfl : k = ns.length := by omega
      have HSO : Hid (Calls Tryz.prog 66 #[.slice (some ⟨g, 0, none⟩) ns.length cap, .func (.func 67) #[] #[]] wr fun e w' => e = .returned (.tuple #[]) ∧ KeptBut g wr w' ∧ ∃ S : List NodeD, S.Perm (ns.map (mvN fr tw)) ∧ S.Pairwise (fun a b => ¬ b.path < a.path) ∧ w'.ownsRow W.heap.size 28 4 (.slice (some ⟨g, 0, none⟩) ns.length cap) ns.length (nodeVs S)) := Lib.hid (by
        have := sortN_any (ns.map (mvN fr tw)) (by rw [List.length_map]; exact HLEN.out) W.heap.size g cap wr (by rw [List.length_map, ← mvTo_all]; exact HO.out)
        rw [List.length_map] at this
        exact this)
      have HNL : Hid (¬ LongN fr tw ns) := Lib.hid (by
        rintro ⟨j, hj, h⟩
        have := HK.out j hj hj
        omega)
      have HWK : Hid (wr.heap[kb]? = some (.cells (keepV (.slice q ns.length c) nx) t)) := Lib.hid ((HB.out.block _ HKB.out.1).trans HKB.out.2)
      clear HO HK HO2
      go_upto_region 11 with (go_at_call 66; refine HSO.out.mono ?_; rintro e w9 ⟨rfl, hk9, S, hs1, hs2, hs3⟩; have hkf := (hk9.block kb (heap_lt HWK.out) (by have := HGB.out; have := HKB.out.1; omega)).trans HWK.out; have kc := cell_at (o := 0) hkf rfl; have kz : w9.frozen? ⟨kb, 0, none⟩ = false := free_at hkf; have HK9 := Lib.hid hk9; have HS1 := Lib.hid hs1; have HS2 := Lib.hid hs2; have HS3 := Lib.hid hs3; have HKF := Lib.hid hkf; clear hk9 hs1 hs2 hs3 hkf)
      go_wp2
      go_ret
      have hkb := HKB.out.1
      have hgb := HGB.out
      have hsl : S.length = ns.length := by rw [HS1.out.length_eq, List.length_map]
      refine .inr ⟨rfl, HNL.out, ⟨HK9.out.os.trans HB.out.os, HK9.out.tape.trans HB.out.tape, HK9.out.output.trans HB.out.output, by rw [heap_set_len]; exact Nat.le_trans HB.out.size HK9.out.size, fun k hk hne => ?_⟩, _, S, heap_set HKF.out, HS1.out, HS2.out, ?_⟩
      · rw [heap_set_ne _ _ _ _ _ hne, HK9.out.block _ (Nat.lt_of_lt_of_le hk HB.out.size) (by omega)]
        exact HB.out.block _ hk
      · rw [hsl]
        exact ownsRow_above HS3.out (heap_set_len _ _ _) (fun k hk => heap_set_ne _ _ _ _ _ (by omega))
end Go.Proofs.YtlpgandflkabcaaGreatDoor
