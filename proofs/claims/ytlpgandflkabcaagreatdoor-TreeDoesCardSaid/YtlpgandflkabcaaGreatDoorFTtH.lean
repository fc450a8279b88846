/-
  Trees: the document's Same.
-/
import Derived.Test.YtlpgandflkabcaaGreatDoorFTtG
import Derived.Test.YtlpgandflkabcaaGreatDoorFOpT
import Derived.Deep.MidRow
namespace Go.Proofs.YtlpgandflkabcaaGreatDoor
open Go Go.RowKit Go.Shelf
set_option linter.unusedVariables false
set_option linter.unusedSimpArgs false

theorem node_fits (x : NodeD) (h : NodeSized x) : Fits [.s, .b, .s, .i .i64] (nodeV x).toList := by
  obtain ⟨h1, h2, h3, h4⟩ := h
  exact ⟨⟨_, rfl, by rw [mkB_size, maxLen_is]; exact h1⟩, ⟨_, rfl⟩, ⟨_, rfl, by rw [mkB_size, maxLen_is]; exact h2⟩, ⟨_, rfl, wf_i64.2 (by omega)⟩, trivial⟩
theorem nodeV_inj {x y : NodeD} (h : nodeV x = nodeV y) : x = y := by
  obtain ⟨a, b, c, d⟩ := x
  obtain ⟨a', b', c', d'⟩ := y
  simp only [Array.mk.injEq, List.cons.injEq, Value.string.injEq, Value.bool.injEq, Value.int.injEq, true_and, and_true, mkB_inj] at h
  obtain ⟨rfl, rfl, rfl, rfl⟩ := h
  rfl
theorem node_eq (x y : NodeD) (hx : NodeSized x) (hy : NodeSized y) (w : World) : (Op.equalIn 10000 28 (.agg (nodeV x)) (.agg (nodeV y))).run Tryz.prog w = .ok (decide (x = y)) w := by
  rw [eq_flat' node_flat (by kernel_rfl) (by omega) (node_fits x hx) (node_fits y hy) w]
  congr 1
  rw [Bool.eq_iff_iff, cellsEq_iff (node_fits x hx) (node_fits y hy), decide_eq_true_iff]
  exact ⟨fun h => nodeV_inj (Array.toList_inj.1 h), fun h => by rw [h]⟩
theorem quiet_load_mid {P : Program} {W : World} {o : Oper} {a : Act} {K : Act → Prop} (T : TypeId) (x : Operand) (cs : Array Value) {b off : Nat} {d : TypeDesc} (ho : o.op = .load T x) (hx : a.eval x = .pointer (some ⟨b, off, none⟩))
    (hc : ∀ s : Grown W, s.w.rangeAt b off cs.toList) (hu : P.underlying T = some d) (hd : d.isRow = true) (hi : (P.info? T).map (·.size) = some cs.size) (hk : K (a.put o.dst (.agg cs))) : o.quiet P a (fun w' => ∃ s : Grown W, w' = s.w) K := by
  refine ⟨.agg cs, fun w' hw => ?_, hk⟩
  obtain ⟨s, rfl⟩ := hw
  have hrun : (execOp a.eval o).run P s.w = .ok (.value (.agg cs)) s.w := by
    unfold execOp
    simp only [ho, hx]
    have := run_loadAt_mid (P := P) s.w b off T cs.toList d (hc s) hu hd (by rw [hi]; simp)
    simp only [Sem.run_bind, this, Result.andThen_ok, Sem.run_pure]
  unfold Oper.quietAt
  rw [hrun]
  exact ⟨rfl, rfl⟩
set_option maxHeartbeats 4000000 in
set_option maxRecDepth 100000 in
theorem same_any (ns ms : List NodeD) (hs : ∀ a ∈ ns, NodeSized a) (hs2 : ∀ a ∈ ms, NodeSized a) (hlen : ns.length ≤ 1000000) (v u : Value) (nx mx : Int) (W : World) (hN : NodesV W v ns) (hM : NodesV W u ms) :
    Calls Tryz.prog 11 #[.agg (keepV v nx), .agg (keepV u mx)] W fun e w' => e = .returned (.bool (decide (ns = ms ∧ nx = mx))) ∧ Below W.heap.size W w' := by
  obtain ⟨q, c, rfl, hN0⟩ := hN
  obtain ⟨q2, c2, rfl, hM0⟩ := hM
  have hli : (ns.length : Int) ≤ 1000000 := by omega
  obtain ⟨r, hr⟩ : ∃ r, r = decide (ns = ms ∧ nx = mx) := ⟨_, rfl⟩
  rw [← hr]
  have HRR := Lib.hid hr
  clear hr
  by_cases hx : nx = mx
  · subst hx
    have hxx : (nx == nx) = true := beq_self_eq_true nx
    by_cases he : ns.length = ms.length
    · have hei : ((ns.length : Int) == (ms.length : Int)) = true := beq_iff_eq.2 (by omega)
      have HE := Lib.hid he; have OK := Lib.hid hs; have OK2 := Lib.hid hs2
      have HN : Hid (NodesV W (.slice q ns.length c) ns) := Lib.hid ⟨q, c, rfl, hN0⟩
      have HM : Hid (NodesV W (.slice q2 ms.length c2) ms) := Lib.hid ⟨q2, c2, rfl, hM0⟩
      obtain ⟨W0, hW0⟩ : ∃ W0, W0 = (W.alloc (.cells (keepV (.slice q ns.length c) nx) 24)).alloc (.cells (keepV (.slice q2 ms.length c2) nx) 24) := ⟨_, rfl⟩
      have HW0 : Hid (Below W.heap.size W W0 ∧ W0.heap.size = W.heap.size + 2 ∧ W0.heap[W.heap.size]? = some (.cells (keepV (.slice q ns.length c) nx) 24) ∧ W0.heap[W.heap.size + 1]? = some (.cells (keepV (.slice q2 ms.length c2) nx) 24)) := Lib.hid (by
        rw [hW0]
        exact ⟨((Below.refl _ _).alloc (Nat.le_refl _) _).alloc (by simp only [heap_len]; omega) _, by simp only [heap_len], (heap_old _ _ _ (by simp only [heap_len]; omega)).trans (heap_new _ _ _ rfl), heap_new _ _ _ (by simp only [heap_len])⟩)
      have hgt : Tryz.prog.eqGuardType Tryz.prog.depth 28 = false := by kernel_rfl
      clear hN0 hM0 hs hs2 hlen he
      go_enter Tryz.func11, Tryz.ntmps11
      go_wp2
      rw [← hW0]
      clear hW0
      go_loopw [5] (fun i wr => ∃ k : Nat, k ≤ ns.length ∧ i = .int .i64 k ∧ Hid (Below W0.heap.size W0 wr) ∧ Hid (ns.take k = ms.take k)) (fun i _ => ns.length - (intOf i).toNat)
      case atStart => exact ⟨0, Nat.zero_le _, rfl, Lib.hid (Below.refl _ _), Lib.hid rfl⟩
      case round =>
        obtain ⟨k, hk, rfl, HB, HA⟩ := hrel
        have HBW : Hid (Below W.heap.size W wr) := Lib.hid (HW0.out.1.trans (HB.out.mono HW0.out.1.size))
        have T1 : Hid (wr.heap[W.heap.size]? = some (.cells (keepV (.slice q ns.length c) nx) 24)) := Lib.hid ((HB.out.block _ (heap_lt HW0.out.2.2.1)).trans HW0.out.2.2.1)
        have T2 : Hid (wr.heap[W.heap.size + 1]? = some (.cells (keepV (.slice q2 ms.length c2) nx) 24)) := Lib.hid ((HB.out.block _ (heap_lt HW0.out.2.2.2)).trans HW0.out.2.2.2)
        have a0 := cell_at (o := 0) T1.out rfl
        by_cases hlt : k < ns.length
        · have hlt2 : k < ms.length := by have := HE.out; omega
          obtain ⟨b, off, hq, hrow⟩ : ∃ b off, q = some ⟨b, off, none⟩ ∧ RowN W b off ns := by
            obtain ⟨q', c', h1, h2⟩ := HN.out
            cases h1
            exact h2 (nonil hlt)
          obtain ⟨b2, off2, hq2, hrow2⟩ : ∃ b off, q2 = some ⟨b, off, none⟩ ∧ RowN W b off ms := by
            obtain ⟨q', c', h1, h2⟩ := HM.out
            cases h1
            exact h2 (nonil hlt2)
          subst hq hq2
          obtain ⟨s, hs⟩ : ∃ s, s = ns[k] := ⟨_, rfl⟩
          obtain ⟨t, ht⟩ : ∃ t, t = ms[k] := ⟨_, rfl⟩
          have HQ : Hid (∀ sg : Grown wr, sg.w.rangeAt b (off + k * 4) (nodeV s).toList) := Lib.hid (fun sg => by rw [hs]; exact (hrow.below (HBW.out.trans (sg.below.mono HBW.out.size))).range k hlt)
          have HQ2 : Hid (∀ sg : Grown wr, sg.w.rangeAt b2 (off2 + k * 4) (nodeV t).toList) := Lib.hid (fun sg => by rw [ht]; exact (hrow2.below (HBW.out.trans (sg.below.mono HBW.out.size))).range k hlt2)
          have q0 : ∀ W, (Op.equalIn 10000 28 (.agg (nodeV s)) (.agg (nodeV t))).run Tryz.prog W = .ok (decide (s = t)) W := fun W => node_eq s t (by rw [hs]; exact OK.out _ (List.getElem_mem _)) (by rw [ht]; exact OK2.out _ (List.getElem_mem _)) W
          have HS := Lib.hid hs; have HT := Lib.hid ht
          have hki : (k : Int) < ns.length := by omega
          have hki2 : (k : Int) < ms.length := by omega
          have y0 : ∀ sg : Grown wr, sg.w.cell? ⟨W.heap.size, 0, none⟩ = some (.slice (some ⟨b, off, none⟩) ns.length c) := Grown.cell (o := 0) T1.out rfl
          have y1 : ∀ sg : Grown wr, sg.w.cell? ⟨W.heap.size + 1, 0, none⟩ = some (.slice (some ⟨b2, off2, none⟩) ms.length c2) := Grown.cell (o := 0) T2.out rfl
          clear hs ht hrow hrow2
          go_upto_region 6 with fail
          by_cases hst : s = t
          · rw [decide_eq_true hst] at q0
            have HST := Lib.hid hst
            clear hst
            refine wp_region_grown (by kernel_rfl) (by kernel_rfl) ?_
            (repeat (first
              | go_big_quiet_step (fail)
              | (go_big_quiet_want; first
                | (refine quiet_load_mid 28 _ (nodeV s) rfl rfl HQ.out Tryz.underlying28 rfl (node_size s) ?_; go_big_quiet_on; (try simp only [Act.put, List.getElem_toArray, List.getElem_cons_succ, List.getElem_cons_zero, List.setIfInBounds_toArray, List.set_cons_zero, List.set_cons_succ]))
                | (refine quiet_load_mid 28 _ (nodeV t) rfl rfl HQ2.out Tryz.underlying28 rfl (node_size t) ?_; go_big_quiet_on; (try simp only [Act.put, List.getElem_toArray, List.getElem_cons_succ, List.getElem_cons_zero, List.setIfInBounds_toArray, List.set_cons_zero, List.set_cons_succ])))))
            refine wpQuiet_nil ?_
            intro _ hw'
            obtain ⟨sG, hw''⟩ := hw'
            subst hw''
            go_wp2
            go_roundw
            case rel => exact ⟨k + 1, by omega, by go_num, Lib.hid (below_then HB.out sG.below), Lib.hid (by
              rw [List.take_succ_eq_append_getElem hlt, List.take_succ_eq_append_getElem hlt2, HA.out, ← HS.out, ← HT.out, HST.out])⟩
            case measure => simp [intOf]; omega
          · have hres : Hid (r = false) := Lib.hid (HRR.out.trans (decide_eq_false (fun e => hst (by rw [HS.out, HT.out]; obtain ⟨rfl, _⟩ := e; rfl))))
            rw [decide_eq_false hst] at q0
            clear hst
            refine wp_region_grown (by kernel_rfl) (by kernel_rfl) ?_
            (repeat (first
              | go_big_quiet_step (fail)
              | (go_big_quiet_want; first
                | (refine quiet_load_mid 28 _ (nodeV s) rfl rfl HQ.out Tryz.underlying28 rfl (node_size s) ?_; go_big_quiet_on; (try simp only [Act.put, List.getElem_toArray, List.getElem_cons_succ, List.getElem_cons_zero, List.setIfInBounds_toArray, List.set_cons_zero, List.set_cons_succ]))
                | (refine quiet_load_mid 28 _ (nodeV t) rfl rfl HQ2.out Tryz.underlying28 rfl (node_size t) ?_; go_big_quiet_on; (try simp only [Act.put, List.getElem_toArray, List.getElem_cons_succ, List.getElem_cons_zero, List.setIfInBounds_toArray, List.set_cons_zero, List.set_cons_succ])))))
            refine wpQuiet_nil ?_
            intro _ hw'
            obtain ⟨sG, hw''⟩ := hw'
            subst hw''
            go_wp2
            go_ret
            exact ⟨by rw [hres.out]; rfl, HBW.out.trans (sG.below.mono HBW.out.size)⟩
        · obtain rfl : k = ns.length := by omega
          have hres : Hid (r = true) := Lib.hid (HRR.out.trans (decide_eq_true ⟨by
            have h := HA.out
            rw [List.take_length, HE.out, List.take_length] at h
            exact h, by first | trivial | rfl⟩))
          go_wp2
          go_ret
          exact ⟨by rw [hres.out]; rfl, HBW.out⟩
    · have hres : Hid (r = false) := Lib.hid (HRR.out.trans (decide_eq_false (fun e => he (by rw [e.1]))))
      have hei : ¬ ((ns.length : Int) = (ms.length : Int)) := by omega
      clear hN0 hM0 hs hs2 hlen he
      go_enter Tryz.func11, Tryz.ntmps11
      go_wp2
      go_ret
      exact ⟨by rw [hres.out]; rfl, ((Below.refl _ _).alloc (Nat.le_refl _) _).alloc (by simp only [heap_len]; omega) _⟩
  · have hres : Hid (r = false) := Lib.hid (HRR.out.trans (decide_eq_false (fun e => hx e.2)))
    have hxi : ¬ (nx = mx) := hx
    clear hN0 hM0 hs hs2 hlen
    go_enter Tryz.func11, Tryz.ntmps11
    go_wp2
    go_ret
    exact ⟨by rw [hres.out]; rfl, ((Below.refl _ _).alloc (Nat.le_refl _) _).alloc (by simp only [heap_len]; omega) _⟩
end Go.Proofs.YtlpgandflkabcaaGreatDoor
