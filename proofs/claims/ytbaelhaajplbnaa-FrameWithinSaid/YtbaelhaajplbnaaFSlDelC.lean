/-
  slices.Delete of elements that the call owns (api.Cell).
-/
import Derived.Test.YtbaelhaajplbnaaFSlR
namespace Go.Proofs.Ytbaelhaajplbnaa
open Go Go.RowKit
set_option linter.unusedVariables false
set_option linter.unusedSimpArgs false

theorem infoDC : (Try.prog.info? 85).map (fun i => (i.zero, i.size, i.bytes)) = some (some (.agg #[.int .u64 0, .int .u64 0]), 2, 16) := by kernel_rfl
theorem zeroDC : ∀ w, (zeroValue 85).run Try.prog w = .ok (.agg #[.int .u64 0, .int .u64 0]) w := fun w => by
  obtain ⟨i0, hi, hz0, hz1, hz2⟩ := info_parts infoDC
  simp [zeroValue, typeInfo, hi, hz0]

set_option maxHeartbeats 4000000 in
set_option maxRecDepth 100000 in
theorem delC_lt (g n cap i j : Nat) (vs : List Value) (cur : Array Value) (w : World) (hg : w.heap[g]? = some (.cells cur 85 (0, 0))) (hnc : n ≤ cap) (hcm : cap ≤ maxLen) (hsz : cur.size = cap * 2) (htk : cur.toList.take (n * 2) = vs) (hij : i < j) (hj : j ≤ n) (h1v : ∀ u ∈ vs, u.oneCell' = true) :
    Calls Try.prog 68 #[.slice (some ⟨g, 0, none⟩) n cap, .int .i64 i, .int .i64 j] w fun e w' => ∃ cur', e = .returned (.slice (some ⟨g, 0, none⟩) (i + (n - j)) cap) ∧ w'.heap[g]? = some (.cells cur' 85 (0, 0)) ∧ cur'.size = cap * 2 ∧ cur'.toList.take ((i + (n - j)) * 2) = vs.take (i * 2) ++ vs.drop (j * 2) ∧ w.grownBy w' (some g) := by
  obtain ⟨i0, hi0, hz0, hz1, hz2⟩ := info_parts infoDC
  have hvl : vs.length = n * 2 := by rw [← htk, List.length_take, Array.length_toList, hsz]; omega
  obtain ⟨news, hnews⟩ : ∃ news, news = vs.drop (j * 2) := ⟨_, rfl⟩
  have hdl : news.length = (n - j) * 2 := by rw [hnews, List.length_drop, hvl, Nat.sub_mul]
  have hvs : ∀ q u, vs[q]? = some u → w.cell? ⟨g, q, none⟩ = some u := fun q u hq => by
    refine cell_at hg ?_
    rw [← htk, List.getElem?_take] at hq
    split at hq
    · simpa using hq
    · cases hq
  obtain ⟨A, hA, hsrc⟩ : ∃ A : Addr, (if cap = j then some (⟨g, 0, none⟩ : Addr) else some ⟨g, j * 2, none⟩) = some A ∧ (∀ t u, news[t]? = some u → w.drew.cell? (A.add t) = some u) := by
    by_cases h : cap = j
    · refine ⟨⟨g, 0, none⟩, by simp [h], fun t u hu => ?_⟩
      have h0 : news.length = 0 := by rw [hdl]; omega
      rw [List.length_eq_zero_iff.1 h0] at hu
      simp at hu
    · refine ⟨⟨g, j * 2, none⟩, by simp [h], fun t u hu => ?_⟩
      rw [Addr.add_lit]
      rw [hnews, List.getElem?_drop] at hu
      exact hvs _ u hu
  obtain ⟨R1, hR1⟩ : ∃ R1, R1 = (cur.toList.take (i * 2) ++ news ++ cur.toList.drop (i * 2 + news.length)).toArray := ⟨_, rfl⟩
  obtain ⟨Z, hZ⟩ : ∃ Z, Z = Builtin.zeroCells (Value.cells (.agg #[.int .u64 0, .int .u64 0])) (j - i) := ⟨_, rfl⟩
  have hZl : Z.size = (j - i) * 2 := by rw [hZ, size_zeroCells]; rfl
  have hZ1 : ∀ u ∈ Z.toList, u.oneCell' = true := by
    rw [hZ]; exact zeroCells_one (by intro u hu; simp [Value.cells] at hu; rcases hu with rfl | rfl <;> rfl) _
  obtain ⟨R2, hR2⟩ : ∃ R2, R2 = (R1.toList.take ((i + (n - j)) * 2) ++ Z.toList ++ R1.toList.drop ((i + (n - j)) * 2 + Z.size)).toArray := ⟨_, rfl⟩
  have hL := del_list cur.toList vs Z.toList (i * 2) (j * 2) (n * 2) htk (by omega) (by omega) (by rw [Array.length_toList, hsz]; omega) (by rw [Array.length_toList, hZl]; omega) R1.toList R2.toList (by rw [hR1, hnews]) (by rw [hR2, Array.length_toList, Nat.add_mul, Nat.sub_mul])
  rw [Array.length_toList, Array.length_toList, Array.length_toList, hsz, ← Nat.sub_mul, ← Nat.add_mul] at hL
  obtain ⟨hL1, hL2, hL3⟩ := hL
  obtain ⟨W1, hW1⟩ : ∃ W1, W1 = w.drew.setRow g R1 := ⟨_, rfl⟩
  have hg1 : W1.heap[g]? = some (.cells R1 85 (0, 0)) := by rw [hW1]; exact row_same (w := w.drew) hg
  have hcl : ∀ ty, (Builtin.clear_ #[27] ty #[.slice (some ⟨g, (i + (n - j)) * 2, none⟩) (n - (i + (n - j))) (cap - (i + (n - j)))]).run Try.prog W1 = .ok (.tuple #[]) (W1.setRow g R2) := fun ty => by
    have hz := run_clear_rowK (P := Try.prog) W1 27 85 ty _ Try.underlying27 zeroDC g ((i + (n - j)) * 2) (j - i) (cap - (i + (n - j))) (by omega) R1 hg1 (by rw [← hZ]; exact hZ1) (by rw [← hZ, hZl, hL3]; omega)
    rw [← hZ, ← hR2] at hz
    rw [show n - (i + (n - j)) = j - i by omega]
    exact hz
  have hfin : Hid ((W1.setRow g R2).heap[g]? = some (.cells R2 85 (0, 0)) ∧ R2.size = cap * 2 ∧ R2.toList.take ((i + (n - j)) * 2) = vs.take (i * 2) ++ vs.drop (j * 2) ∧ w.grownBy (W1.setRow g R2) (some g)) :=
    Lib.hid ⟨row_same hg1, hL2, hL1, by rw [hW1]; exact grown_drew (grown_trans (grown_row _ _ _) (grown_row _ _ _))⟩
  have HN1 : Hid (∀ u ∈ news, u.oneCell' = true) := Lib.hid (by rw [hnews]; exact fun u hu => h1v u (List.mem_of_mem_drop hu))
  have HDL := Lib.hid hdl; have HSRC := Lib.hid hsrc; have HG := Lib.hid hg
  have HFIT : Hid (i * 2 + news.length ≤ cur.size) := Lib.hid (by rw [hdl, hsz]; omega)
  have HW1 : Hid (W1 = w.drew.setRow g (cur.toList.take (i * 2) ++ news ++ cur.toList.drop (i * 2 + news.length)).toArray) := Lib.hid (by rw [hW1, hR1])
  have hic : i ≤ cap := by omega
  have hjc : j ≤ cap := by omega
  have hc63 : cap ≤ 9223372036854775807 := by unfold maxLen at hcm; exact hcm
  have mixed : Try.prog.follows Departure.mixedOrders = true := by kernel_rfl
  clear hvl hnews hdl hvs hsrc hR1 hZ hZl hZ1 hR2 hL1 hL2 hL3 hW1 hg1 hg hcm hsz htk h1v hz0 hz2
  go_enter Try.func68, Try.ntmps68
  go_wp2_with fail
  go_region_law_o (refine step_append_rowK rfl (.tmp 22) (.tmp 25) 27 rfl 85 i0 2 Try.underlying27 hi0 hz1 g i cap (by simp [Act.eval, Act.put]) cur HG.out A (n - j) (cap - j) news (by simp [Act.eval, Act.put]) HDL.out HSRC.out HN1.out (by omega) HFIT.out ?_; rw [← HW1.out])
  go_wp2
  go_ret
  exact ⟨R2, rfl, hfin.out⟩

/-- slices.Delete: what stands ahead of i, and from j on, in a row that the call owns. -/
theorem delC_any (B : Nat) (v : Value) (n i j : Nat) (vs : List Value) (w : World) (hown : w.ownsRow B 85 2 v n vs) (hij : i < j) (hj : j ≤ n) (h1v : ∀ u ∈ vs, u.oneCell' = true) :
    Calls Try.prog 68 #[v, .int .i64 i, .int .i64 j] w fun e w' => ∃ v', e = .returned v' ∧ w'.ownsRow B 85 2 v' (i + (n - j)) (vs.take (i * 2) ++ vs.drop (j * 2)) ∧ w.grownBy w' v.ownBlock := by
  have hvl := hown.1
  rcases hown.2 with ⟨_, h0⟩ | ⟨g, cap, cur, rfl, hBg, hg, hnc, hcm, hsz, htk⟩
  · omega
  · refine (delC_lt g n cap i j vs cur w hg hnc hcm hsz htk hij hj h1v).mono ?_
    rintro e w' ⟨cur', rfl, k1, k2, k3, k4⟩
    exact ⟨_, rfl, ⟨by rw [List.length_append, List.length_take, List.length_drop, hvl]; omega, .inr ⟨g, cap, cur', rfl, hBg, k1, by omega, hcm, k2, k3⟩⟩, k4⟩
end Go.Proofs.Ytbaelhaajplbnaa
