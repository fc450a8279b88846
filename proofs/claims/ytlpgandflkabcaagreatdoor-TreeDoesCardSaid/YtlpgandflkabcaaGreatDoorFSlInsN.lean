/-
  slices.Insert of elements that the call owns (api.Node).
-/
import Derived.Test.YtlpgandflkabcaaGreatDoorFSlR
import Derived.Shelf.RegionOpenPlain
import Derived.OwnWalk
import Derived.Deep.RegionHeld
namespace Go.Proofs.YtlpgandflkabcaaGreatDoor
open Go Go.RowKit
set_option linter.unusedVariables false
set_option linter.unusedSimpArgs false

theorem infoN : (Tryz.prog.info? 28).map (fun i => (i.zero, i.size, i.bytes)) = some (some (.agg #[.string ⟨#[]⟩, .bool false, .string ⟨#[]⟩, .int .i64 0]), 4, 48) := by kernel_rfl
theorem zeroN : ∀ w, (zeroValue 28).run Tryz.prog w = .ok (.agg #[.string ⟨#[]⟩, .bool false, .string ⟨#[]⟩, .int .i64 0]) w := fun w => by
  obtain ⟨i0, hi, hz0, hz1, hz2⟩ := info_parts infoN
  simp [zeroValue, typeInfo, hi, hz0]
theorem sizeOfN : ∀ w, (Go.sizeOf 28).run Tryz.prog w = .ok 4 w := fun w => by
  obtain ⟨i0, hi, hz0, hz1, hz2⟩ := info_parts infoN
  simp [sizeOf, typeInfo, hi, hz1]

set_option maxHeartbeats 4000000 in
set_option maxRecDepth 100000 in
theorem insN_end (B : Nat) (v : Value) (n m : Nat) (vs news : List Value) (vb voff mc : Nat) (curA : Array Value) (tA : TypeId) (w : World) (hown : w.ownsRow B 28 4 v n vs) (hB : B ≤ w.heap.size) (hm : 0 < m)
    (hA : w.heap[vb]? = some (.cells curA tA (0, 0))) (hnews : ∀ j u, news[j]? = some u → curA[voff + j]? = some u) (hnl : news.length = m * 4) (h1 : ∀ u ∈ news, u.oneCell' = true) (hsm : n + m ≤ 1000000) :
    Calls Tryz.prog 58 #[v, .int .i64 n, .slice (some ⟨vb, voff, none⟩) m mc] w fun e w' => ∃ v', e = .returned v' ∧ w'.ownsRow B 28 4 v' (n + m) (vs ++ news) ∧ w.grownBy w' v.ownBlock := by
  obtain ⟨i0, hi, hz0, hz1, hz2⟩ := info_parts infoN
  have hz : ((m : Int) == 0) = false := beq_eq_false_iff_ne.2 (by omega)
  have hz' : ¬ (m : Int) = 0 := by omega
  have HO := Lib.hid hown
  have HN : Hid (∀ j u, news[j]? = some u → w.cell? ((⟨vb, voff, none⟩ : Addr).add j) = some u) := Lib.hid (fun j u hj => by rw [Addr.add_lit]; exact cell_at hA (hnews j u hj))
  have HNL := Lib.hid hnl; have H1 := Lib.hid h1; have HSM := Lib.hid hsm; have HB := Lib.hid hB
  obtain ⟨vp, vc, rfl⟩ : ∃ vp vc, v = .slice vp n vc := by
    rcases hown.2 with ⟨rfl, rfl⟩ | ⟨g, cap, cur, rfl, _⟩
    · exact ⟨_, _, rfl⟩
    · exact ⟨_, _, rfl⟩
  have hcap : n ≤ vc ∧ vc ≤ 9223372036854775807 := by
    rcases hown.2 with ⟨h, rfl⟩ | ⟨g, cap, cur, h, _, _, h3, h4, _⟩
    · cases h; omega
    · cases h; unfold maxLen at h4; omega
  obtain ⟨hcap1, hcap2⟩ := hcap
  have hni : (n : Int) ≤ 1000000 := by omega
  have hni2 : (n : Int) ≤ (vc : Int) := by omega
  clear hown hnews hnl h1 hA hsm hB
  cases vp with
  | none =>
    go_enter Tryz.func58, Tryz.ntmps58
    go_wp2_with (at_builtin; refine wpList_append_own _ rfl _ _ 22 rfl B 28 i0 _ 4 48 Tryz.underlying22 hi hz0 hz1 hz2 rfl (by omega) _ _ _ rfl HO.out ⟨vb, voff, none⟩ m mc news rfl HNL.out HN.out H1.out (by have := HSM.out; unfold maxLen; omega) (by have := HSM.out; omega) HB.out ?_)
    intro v' w1 hown' hgrow _
    go_wp2
    go_ret
    exact ⟨v', rfl, hown', hgrow⟩
  | some a =>
    obtain ⟨ab, ao, asp⟩ := a
    go_enter Tryz.func58, Tryz.ntmps58
    go_wp2_with (at_builtin; refine wpList_append_own _ rfl _ _ 22 rfl B 28 i0 _ 4 48 Tryz.underlying22 hi hz0 hz1 hz2 rfl (by omega) _ _ _ rfl HO.out ⟨vb, voff, none⟩ m mc news rfl HNL.out HN.out H1.out (by have := HSM.out; unfold maxLen; omega) (by have := HSM.out; omega) HB.out ?_)
    all_goals (
      intro v' w1 hown' hgrow _
      go_wp2
      go_ret
      exact ⟨v', rfl, hown', hgrow⟩)

set_option maxHeartbeats 4000000 in
set_option maxRecDepth 100000 in
theorem insN_shift (g n cap i m : Nat) (vs news : List Value) (cur : Array Value) (vb voff mc : Nat) (curA : Array Value) (tA : TypeId) (w : World) (hg : w.heap[g]? = some (.cells cur 28 (0, 0))) (hcm : cap ≤ maxLen) (hsz : cur.size = cap * 4) (htk : cur.toList.take (n * 4) = vs)
    (hi : i < n) (hm : 0 < m) (hroom : n + m ≤ cap) (h1v : ∀ u ∈ vs, u.oneCell' = true)
    (hA : w.heap[vb]? = some (.cells curA tA (0, 0))) (hnews : ∀ j u, news[j]? = some u → curA[voff + j]? = some u) (hnl : news.length = m * 4) (h1 : ∀ u ∈ news, u.oneCell' = true) (hvb : vb ≠ g) :
    Calls Tryz.prog 58 #[.slice (some ⟨g, 0, none⟩) n cap, .int .i64 i, .slice (some ⟨vb, voff, none⟩) m mc] w fun e w' => ∃ cur', e = .returned (.slice (some ⟨g, 0, none⟩) (n + m) cap) ∧ w'.heap[g]? = some (.cells cur' 28 (0, 0)) ∧ cur'.size = cap * 4 ∧ cur'.toList.take ((n + m) * 4) = vs.take (i * 4) ++ news ++ vs.drop (i * 4) ∧ w.grownBy w' (some g) := by
  obtain ⟨i0, hi0, hz0, hz1, hz2⟩ := info_parts infoN
  have hvl : vs.length = n * 4 := by rw [← htk, List.length_take, Array.length_toList, hsz]; omega
  have hdl : (vs.drop (i * 4)).length = (n - i) * 4 := by rw [List.length_drop, hvl, Nat.sub_mul]
  have hov : ∀ lb cb, (callFunc 79 #[.slice (some ⟨vb, voff, none⟩) m mc, .slice (some ⟨g, (i + m) * 4, none⟩) lb cb]).run Tryz.prog w = .ok (.value (.bool false)) w := fun lb cb => by
    rw [run_callFunc_extern Tryz.func79 (by kernel_rfl) (by kernel_rfl) (by kernel_rfl) (e := Extern.SlicesOverlaps.overlaps #[22, 22] #[4]) (by kernel_rfl),
      Lib.run_overlaps_apart w 22 4 28 Tryz.underlying22 4 sizeOfN ⟨vb, voff, none⟩ ⟨g, (i + m) * 4, none⟩ m mc lb cb hvb tA 28 curA.size cur.size (by simp [World.shape?, hA]) (by simp [World.shape?, hg]) (by omega) (free_at hA) (free_at hA)]
    rfl
  obtain ⟨R1, hR1⟩ : ∃ R1, R1 = (cur.toList.take ((i + m) * 4) ++ vs.drop (i * 4) ++ cur.toList.drop ((i + m) * 4 + (vs.drop (i * 4)).length)).toArray := ⟨_, rfl⟩
  obtain ⟨R2, hR2⟩ : ∃ R2, R2 = (R1.toList.take (i * 4) ++ news ++ R1.toList.drop (i * 4 + news.length)).toArray := ⟨_, rfl⟩
  have hL := ins_list cur.toList vs news (i * 4) (m * 4) (n * 4) htk (by omega) hnl (by rw [Array.length_toList, hsz]; omega) R1.toList R2.toList (by rw [hR1, Nat.add_mul]) (by rw [hR2])
  rw [Array.length_toList, Array.length_toList, Array.length_toList, hsz, ← Nat.add_mul] at hL
  obtain ⟨hL1, hL2, hL3⟩ := hL
  have hcp1 : ∀ ty dc sc, (Builtin.copy_ #[22, 22] ty #[.slice (some ⟨g, (i + m) * 4, none⟩) (n + m - (i + m)) dc, .slice (some ⟨g, i * 4, none⟩) (n + m - i) sc]).run Tryz.prog w.drew = .ok (goInt ((n - i : Nat) : Int)) (w.drew.setRow g R1) := fun ty dc sc => by
    rw [hR1]
    exact run_copy_rowK w.drew _ _ ty 28 i0 Tryz.underlying22 hi0 g ((i + m) * 4) (n + m - (i + m)) dc cur hg ⟨g, i * 4, none⟩ (n + m - i) sc (vs.drop (i * 4)) (n - i) (by simp only [Nat.min_def]; split <;> omega) (by rw [hz1, hdl])
      (fun j u hj => by
        rw [Addr.add_lit]
        refine cell_at (w := w.drew) (b := g) hg ?_
        rw [← htk, List.getElem?_drop, List.getElem?_take] at hj
        split at hj
        · simpa using hj
        · cases hj)
      (fun u hu => h1v u (List.mem_of_mem_drop hu)) (by rw [hdl, hsz]; omega)
  obtain ⟨W1, hW1⟩ : ∃ W1, W1 = w.drew.setRow g R1 := ⟨_, rfl⟩
  have hg1 : W1.heap[g]? = some (.cells R1 28 (0, 0)) := by rw [hW1]; exact row_same (w := w.drew) hg
  have hA1 : W1.heap[vb]? = some (.cells curA tA (0, 0)) := by rw [hW1, row_ne _ _ _ _ hvb]; exact hA
  have hcp2 : ∀ ty dc, (Builtin.copy_ #[22, 22] ty #[.slice (some ⟨g, i * 4, none⟩) (n + m - i) dc, .slice (some ⟨vb, voff, none⟩) m mc]).run Tryz.prog W1 = .ok (goInt m) (W1.setRow g R2) := fun ty dc => by
    rw [hR2]
    exact run_copy_rowK W1 _ _ ty 28 i0 Tryz.underlying22 hi0 g (i * 4) (n + m - i) dc R1 hg1 ⟨vb, voff, none⟩ m mc news m (by simp only [Nat.min_def]; split <;> omega) (by rw [hz1, hnl])
      (fun j u hj => by rw [Addr.add_lit]; exact cell_at hA1 (hnews j u hj)) h1 (by rw [hnl, hL3]; omega)
  rw [← hW1] at hcp1
  have hfin : Hid ((W1.setRow g R2).heap[g]? = some (.cells R2 28 (0, 0)) ∧ R2.size = cap * 4 ∧ R2.toList.take ((n + m) * 4) = vs.take (i * 4) ++ news ++ vs.drop (i * 4) ∧ w.grownBy (W1.setRow g R2) (some g)) :=
    Lib.hid ⟨row_same hg1, hL2, hL1, by rw [hW1]; exact grown_drew (grown_trans (grown_row _ _ _) (grown_row _ _ _))⟩
  have hz1 : ¬ ((m : Int) = 0) := by omega
  have hz2 : ¬ ((i : Int) = (n : Int)) := by omega
  have hc63 : cap ≤ 9223372036854775807 := by unfold maxLen at hcm; exact hcm
  have hw1 : IntKind.i64.wrap ((i : Int) + (m : Int)) = (i : Int) + (m : Int) := by rw [IntKind.wrap_i64]; omega
  have hb1 : (0 : Int) ≤ (i : Int) + (m : Int) := by omega
  have hin : i ≤ n := by omega
  have htn : ((i : Int) + (m : Int)).toNat = i + m := by omega
  have hb2 : ¬ (cap = i + m) := by omega
  have hb3 : (i : Int) ≤ (n : Int) + (m : Int) := by omega
  have hb4 : ¬ (cap = i) := by omega
  have mixed : Tryz.prog.follows Departure.mixedOrders = true := by kernel_rfl
  clear hvl hdl hR1 hR2 hL1 hL2 hL3 hW1 hg1 hA1 hg htk hA hnews hnl h1 h1v hcm hsz hi0
  go_enter Tryz.func58, Tryz.ntmps58
  go_wp2_with (simp only [hov])
  go_region_law_o (refine step_copy_runI rfl _ _ 22 22 rfl _ _ (by simp [Act.eval, Act.put]) (by simp [Act.eval, Act.put]) (hcp1 _ _ _) ?_)
  go_wp2_with (at_builtin; refine wpList_copy_runI _ rfl _ _ 22 22 rfl _ _ rfl rfl (hcp2 _ _) ?_)
  go_ret
  exact ⟨R2, rfl, hfin.out⟩

set_option maxHeartbeats 4000000 in
set_option maxRecDepth 100000 in
theorem insN_grow (g n cap i m : Nat) (vs news : List Value) (cur : Array Value) (vb voff mc : Nat) (curA : Array Value) (tA : TypeId) (w : World) (hg : w.heap[g]? = some (.cells cur 28 (0, 0))) (hsz : cur.size = cap * 4) (htk : cur.toList.take (n * 4) = vs)
    (hi : i < n) (hm : 0 < m) (hnc : n ≤ cap) (hroom : cap < n + m) (h1v : ∀ u ∈ vs, u.oneCell' = true) (hsm : n + m ≤ 1000000)
    (hA : w.heap[vb]? = some (.cells curA tA (0, 0))) (hnews : ∀ j u, news[j]? = some u → curA[voff + j]? = some u) (hnl : news.length = m * 4) (h1 : ∀ u ∈ news, u.oneCell' = true) :
    Calls Tryz.prog 58 #[.slice (some ⟨g, 0, none⟩) n cap, .int .i64 i, .slice (some ⟨vb, voff, none⟩) m mc] w fun e w' => ∃ cur' G, e = .returned (.slice (some ⟨w.heap.size, 0, none⟩) (n + m) G) ∧ w'.heap[w.heap.size]? = some (.cells cur' 28 (0, 0)) ∧ n + m ≤ G ∧ G ≤ maxLen ∧ cur'.size = G * 4 ∧ cur'.toList.take ((n + m) * 4) = vs.take (i * 4) ++ news ++ vs.drop (i * 4) ∧ w.grownBy w' none := by
  obtain ⟨i0, hi0, hz0, hz1, hzb⟩ := info_parts infoN
  have hvl : vs.length = n * 4 := by rw [← htk, List.length_take, Array.length_toList, hsz]; omega
  have hdl : (vs.drop (i * 4)).length = (n - i) * 4 := by rw [List.length_drop, hvl, Nat.sub_mul]
  have hkk : (n : Int) + (m : Int) - (i : Int) = ((n + m - i : Nat) : Int) := by omega
  have hik : i + (n + m - i) = n + m := by omega
  have hvs : ∀ j u, vs[j]? = some u → w.cell? ⟨g, j, none⟩ = some u := fun j u hj => by
    refine cell_at hg ?_
    rw [← htk, List.getElem?_take] at hj
    split at hj
    · simpa using hj
    · cases hj
  have hold : (Builtin.firstCells i0.size i (.slice (some ⟨g, 0, none⟩) i cap)).run Tryz.prog w.drew = .ok (vs.take (i * 4)).toArray w.drew :=
    run_firstCells_some (P := Tryz.prog) w.drew i0.size i ⟨g, 0, none⟩ i cap (vs.take (i * 4)) (by rw [List.length_take, hz1]; omega) (fun j u hj => by
      rw [Addr.add_lit, Nat.zero_add]
      rw [List.getElem?_take] at hj
      split at hj
      · exact hvs j u hj
      · cases hj)
  have hrz : ∀ ty, (Builtin.append_ #[22, 3] ty #[.slice (some ⟨g, 0, none⟩) i cap, .int .i64 ((n : Int) + (m : Int) - (i : Int))]).run Tryz.prog w =
      .ok (.slice (some ⟨w.heap.size, 0, none⟩) (n + m) (grownCap w (n + m) cap 28)) (w.drew.alloc (.cells ((vs.take (i * 4)).toArray ++ Builtin.zeroCells (Value.cells (.agg #[.string ⟨#[]⟩, .bool false, .string ⟨#[]⟩, .int .i64 0])) (n + m - i) ++ Builtin.zeroCells (Value.cells (.agg #[.string ⟨#[]⟩, .bool false, .string ⟨#[]⟩, .int .i64 0])) (grownCap w (n + m) cap 28 - (n + m))) 28)) := fun ty => by
    have h := Lib.run_append_grow_zeros w 22 3 ty 28 i0 _ .i64 .i64 Tryz.underlying22 Tryz.underlying3 hi0 hz0 (some ⟨g, 0, none⟩) i cap (vs.take (i * 4)) hold (n + m - i) (by omega) (by omega) (by omega) (by omega) (by rw [hzb]; omega) (by rw [hzb, hik]; exact growslice_fits hroom (by omega))
    rw [hik] at h
    rw [hkk]
    exact h
  obtain ⟨G, hG⟩ : ∃ G, G = grownCap w (n + m) cap 28 := ⟨_, rfl⟩
  obtain ⟨ROW, hROW⟩ : ∃ ROW : Array Value, ROW = (vs.take (i * 4)).toArray ++ Builtin.zeroCells (Value.cells (.agg #[.string ⟨#[]⟩, .bool false, .string ⟨#[]⟩, .int .i64 0])) (n + m - i) ++ Builtin.zeroCells (Value.cells (.agg #[.string ⟨#[]⟩, .bool false, .string ⟨#[]⟩, .int .i64 0])) (G - (n + m)) := ⟨_, rfl⟩
  rw [← hG] at hrz
  rw [← hROW] at hrz
  have hGn : n + m ≤ G := by rw [hG]; exact grownCap_ge w _ _ _
  have hGm : G ≤ maxLen := by
    have := grownCap_le_maxLen w (n + m) cap 28 (by unfold maxLen; omega)
    rw [← hG] at this
    exact this
  have hzc : (Value.cells (.agg #[.string ⟨#[]⟩, .bool false, .string ⟨#[]⟩, .int .i64 0])).size = 4 := rfl
  have hRl : ROW.size = G * 4 := by
    rw [hROW]
    simp only [Array.size_append, List.size_toArray, size_zeroCells, hzc, List.length_take, hvl]
    omega
  obtain ⟨R1, hR1⟩ : ∃ R1, R1 = (ROW.toList.take (i * 4) ++ news ++ ROW.toList.drop (i * 4 + news.length)).toArray := ⟨_, rfl⟩
  obtain ⟨R2, hR2⟩ : ∃ R2, R2 = (R1.toList.take ((i + m) * 4) ++ vs.drop (i * 4) ++ R1.toList.drop ((i + m) * 4 + (vs.drop (i * 4)).length)).toArray := ⟨_, rfl⟩
  have hL := insg_list (vs.take (i * 4)) (Builtin.zeroCells (Value.cells (.agg #[.string ⟨#[]⟩, .bool false, .string ⟨#[]⟩, .int .i64 0])) (n + m - i)).toList (Builtin.zeroCells (Value.cells (.agg #[.string ⟨#[]⟩, .bool false, .string ⟨#[]⟩, .int .i64 0])) (G - (n + m))).toList vs news (i * 4) (m * 4) (n * 4) hvl (by omega) hnl rfl (by rw [zeroCells_len, hzc]; omega) ROW.toList R1.toList R2.toList (by rw [hROW]; simp) (by rw [hR1]) (by rw [hR2, Nat.add_mul])
  rw [Array.length_toList, Array.length_toList, Array.length_toList, hRl, ← Nat.add_mul] at hL
  obtain ⟨hL1, hL2, hL3⟩ := hL
  obtain ⟨W1, hW1⟩ : ∃ W1, W1 = w.drew.alloc (.cells ROW 28) := ⟨_, rfl⟩
  rw [← hW1] at hrz
  have hN1 : W1.heap[w.heap.size]? = some (.cells ROW 28 (0, 0)) := by rw [hW1]; exact heap_new w.drew _ _ rfl
  have hA1 : W1.heap[vb]? = some (.cells curA tA (0, 0)) := by rw [hW1]; exact (heap_old w.drew _ _ (heap_lt hA)).trans hA
  have hg1 : W1.heap[g]? = some (.cells cur 28 (0, 0)) := by rw [hW1]; exact (heap_old w.drew _ _ (heap_lt hg)).trans hg
  have hgN : g ≠ w.heap.size := Nat.ne_of_lt (heap_lt hg)
  have hcpA : ∀ ty dc, (Builtin.copy_ #[22, 22] ty #[.slice (some ⟨w.heap.size, i * 4, none⟩) (n + m - i) dc, .slice (some ⟨vb, voff, none⟩) m mc]).run Tryz.prog W1 = .ok (goInt m) (W1.setRow w.heap.size R1) := fun ty dc => by
    rw [hR1]
    exact run_copy_rowK W1 _ _ ty 28 i0 Tryz.underlying22 hi0 w.heap.size (i * 4) (n + m - i) dc ROW hN1 ⟨vb, voff, none⟩ m mc news m (by simp only [Nat.min_def]; split <;> omega) (by rw [hz1, hnl])
      (fun j u hj => by rw [Addr.add_lit]; exact cell_at hA1 (hnews j u hj)) h1 (by rw [hnl, hRl]; omega)
  obtain ⟨W2, hW2⟩ : ∃ W2, W2 = (W1.setRow w.heap.size R1).drew := ⟨_, rfl⟩
  have hN2 : W2.heap[w.heap.size]? = some (.cells R1 28 (0, 0)) := by rw [hW2]; exact row_same hN1
  have hg2 : W2.heap[g]? = some (.cells cur 28 (0, 0)) := by rw [hW2]; exact (row_ne _ _ _ _ hgN).trans hg1
  have hcpB : ∀ ty dc sc, (Builtin.copy_ #[22, 22] ty #[.slice (some ⟨w.heap.size, (i + m) * 4, none⟩) (n + m - (i + m)) dc, .slice (some ⟨g, i * 4, none⟩) (n - i) sc]).run Tryz.prog W2 = .ok (goInt ((n - i : Nat) : Int)) (W2.setRow w.heap.size R2) := fun ty dc sc => by
    rw [hR2]
    exact run_copy_rowK W2 _ _ ty 28 i0 Tryz.underlying22 hi0 w.heap.size ((i + m) * 4) (n + m - (i + m)) dc R1 hN2 ⟨g, i * 4, none⟩ (n - i) sc (vs.drop (i * 4)) (n - i) (by simp only [Nat.min_def]; split <;> omega) (by rw [hz1, hdl])
      (fun j u hj => by
        rw [Addr.add_lit]
        rw [List.getElem?_drop] at hj
        refine cell_at (b := g) hg2 ?_
        rw [← htk, List.getElem?_take] at hj
        split at hj
        · simpa using hj
        · cases hj) (fun u hu => h1v u (List.mem_of_mem_drop hu)) (by rw [hdl, hL3]; omega)
  have hfin : Hid ((W2.setRow w.heap.size R2).heap[w.heap.size]? = some (.cells R2 28 (0, 0)) ∧ n + m ≤ G ∧ G ≤ maxLen ∧ R2.size = G * 4 ∧ R2.toList.take ((n + m) * 4) = vs.take (i * 4) ++ news ++ vs.drop (i * 4) ∧ w.grownBy (W2.setRow w.heap.size R2) none) :=
    Lib.hid ⟨row_same hN2, hGn, hGm, hL2, hL1, by
      have k1 : w.grownBy W1 none := by rw [hW1]; exact grown_drew (World.grownBy_alloc _ _ _)
      have k2 : w.grownBy W2 none := by rw [hW2]; exact grown_drew' (grown_new k1 (grown_row _ _ _) (Nat.le_refl _))
      exact grown_new k2 (grown_row _ _ _) (Nat.le_refl _)⟩
  have hz1 : ¬ ((m : Int) = 0) := by omega
  have hz2 : ¬ ((i : Int) = (n : Int)) := by omega
  have hz3 : (cap : Int) < (n : Int) + (m : Int) := by omega
  have hG63 : G ≤ 9223372036854775807 := by unfold maxLen at hGm; exact hGm
  have hGi : ¬ (G = i) := by omega
  have hGim : ¬ (G = i + m) := by omega
  have hci : ¬ (cap = i) := by omega
  have hw1 : IntKind.i64.wrap ((i : Int) + (m : Int)) = (i : Int) + (m : Int) := by rw [IntKind.wrap_i64]; omega
  have hb1 : (0 : Int) ≤ (i : Int) + (m : Int) := by omega
  have hin : i ≤ n := by omega
  have htn : ((i : Int) + (m : Int)).toNat = i + m := by omega
  have hb3 : (i : Int) ≤ (n : Int) := by omega
  have mixed : Tryz.prog.follows Departure.mixedOrders = true := by kernel_rfl
  subst hW2
  clear hkk hik hold hROW hG hRl hvl hdl hR1 hR2 hL1 hL2 hL3 hW1 hN1 hA1 hg1 hN2 hg2 hvs hgN hGm hzb hzc hg htk hA hnews hnl h1 h1v hsz hi0 hz0
  go_enter Tryz.func58, Tryz.ntmps58
  go_wp2_with (first
    | (at_builtin; refine Lib.wpList_append_run _ rfl _ _ _ _ rfl _ _ rfl rfl _ _ (hrz _) ?_)
    | (at_builtin; refine wpList_copy_runI _ rfl _ _ 22 22 rfl _ _ rfl rfl (hcpA _ _) ?_))
  go_region_law_o (refine step_copy_runI rfl _ _ 22 22 rfl _ _ (by simp [Act.eval, Act.put]) (by simp [Act.eval, Act.put]) (hcpB _ _ _) ?_)
  go_wp2
  go_ret
  exact ⟨R2, G, rfl, hfin.out⟩

/-- slices.Insert: the elements ahead of i, the new ones, and those from i on, in a row that the call owns. -/
theorem insN_any (B : Nat) (v : Value) (n i m : Nat) (vs news : List Value) (vb voff mc : Nat) (curA : Array Value) (tA : TypeId) (w : World) (hown : w.ownsRow B 28 4 v n vs) (hB : B ≤ w.heap.size) (hi : i ≤ n) (hm : 0 < m) (h1v : ∀ u ∈ vs, u.oneCell' = true)
    (hA : w.heap[vb]? = some (.cells curA tA (0, 0))) (hnews : ∀ j u, news[j]? = some u → curA[voff + j]? = some u) (hnl : news.length = m * 4) (h1 : ∀ u ∈ news, u.oneCell' = true) (hvb : v.ownBlock ≠ some vb) (hsm : n + m ≤ 1000000) :
    Calls Tryz.prog 58 #[v, .int .i64 i, .slice (some ⟨vb, voff, none⟩) m mc] w fun e w' => ∃ v', e = .returned v' ∧ w'.ownsRow B 28 4 v' (n + m) (vs.take (i * 4) ++ news ++ vs.drop (i * 4)) ∧ w.grownBy w' v.ownBlock := by
  have hvl := hown.1
  rcases Nat.lt_or_eq_of_le hi with hlt | rfl
  · rcases hown.2 with ⟨_, h0⟩ | ⟨g, cap, cur, rfl, hBg, hg, hnc, hcm, hsz, htk⟩
    · omega
    · by_cases hroom : n + m ≤ cap
      · refine (insN_shift g n cap i m vs news cur vb voff mc curA tA w hg hcm hsz htk hlt hm hroom h1v hA hnews hnl h1 (fun e => hvb (by rw [e]; rfl))).mono ?_
        rintro e w' ⟨cur', rfl, k1, k2, k3, k4⟩
        exact ⟨_, rfl, ⟨by rw [List.length_append, List.length_append, List.length_take, List.length_drop, hvl, hnl]; omega, .inr ⟨g, cap, cur', rfl, hBg, k1, hroom, hcm, k2, k3⟩⟩, k4⟩
      · refine (insN_grow g n cap i m vs news cur vb voff mc curA tA w hg hsz htk hlt hm hnc (by omega) h1v hsm hA hnews hnl h1).mono ?_
        rintro e w' ⟨cur', G, rfl, k1, k2, k3, k4, k5, k6⟩
        exact ⟨_, rfl, ⟨by rw [List.length_append, List.length_append, List.length_take, List.length_drop, hvl, hnl]; omega, .inr ⟨_, G, cur', rfl, hB, k1, k2, k3, k4, k5⟩⟩, ⟨k6.os, k6.tape, k6.output, k6.size, fun k hk _ => k6.block k hk (by simp)⟩⟩
  · refine (insN_end B v i m vs news vb voff mc curA tA w hown hB hm hA hnews hnl h1 hsm).mono ?_
    rintro e w' ⟨v', rfl, k1, k2⟩
    refine ⟨v', rfl, ?_, k2⟩
    rw [List.take_of_length_le (by omega), List.drop_of_length_le (by omega), List.append_nil]
    exact k1
end Go.Proofs.YtlpgandflkabcaaGreatDoor
