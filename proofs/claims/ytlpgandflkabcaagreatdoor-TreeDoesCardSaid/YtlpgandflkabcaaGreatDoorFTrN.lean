/-
  A tree's keeper: one node more.
-/
import Derived.Test.YtlpgandflkabcaaGreatDoorFTrM
import Derived.Test.YtlpgandflkabcaaGreatDoorFTrI
import Derived.Test.YtlpgandflkabcaaGreatDoorFInv2
namespace Go.Proofs.YtlpgandflkabcaaGreatDoor
open Go Go.RowKit Go.Shelf
set_option linter.unusedVariables false
set_option linter.unusedSimpArgs false

/-- Nothing that was there has turned but a block's cells. -/
structure KeptBut (b : Nat) (w w' : World) : Prop where
  os : w'.os = w.os
  tape : w'.tape = w.tape
  output : w'.output = w.output
  size : w.heap.size ≤ w'.heap.size
  block : ∀ k, k < w.heap.size → k ≠ b → w'.heap[k]? = w.heap[k]?
theorem KeptBut.below {b B : Nat} {w w' : World} (h : KeptBut b w w') (hB : B ≤ b) (hw : B ≤ w.heap.size) : Below B w w' := ⟨h.os, h.tape, h.output, h.size, fun k hk => h.block k (by omega) (by omega)⟩

section
variable (kb B n : Nat) (v i : Value) (y : NodeD) (ns : List NodeD)
def PA : Nat → (Nat → Value) → World → Prop
  | 0, x, _ => x 0 = .pointer (some ⟨kb, 0, none⟩)
  | 1, x, _ => x 1 = .pointer (some ⟨kb, 0, none⟩)
  | 2, x, _ => x 2 = .pointer (some ⟨kb, 0, none⟩)
  | 3, x, _ => x 3 = .pointer (some ⟨kb, 0, none⟩)
  | 4, x, _ => x 4 = .pointer (some ⟨kb, 0, none⟩)
  | 5, x, _ => x 5 = v
  | 6, x, w => x 10 = undef → w.ownsRow B 28 4 (x 6) n (nodeVs ns) ∧ ∀ g, x 9 = .slice (some ⟨g, 0, none⟩) 1 1 → (x 6).ownBlock ≠ some g
  | 7, x, _ => x 7 = i
  | 8, x, _ => x 8 = .agg (nodeV y)
  | 9, x, w => ∃ g, x 9 = .slice (some ⟨g, 0, none⟩) 1 1 ∧ B ≤ g ∧ (x 10 = undef → w.heap[g]? = some (.cells (nodeV y) 28))
  | 10, x, w => w.ownsRow B 28 4 (x 10) (n + 1) (nodeVs (withN ns y))
  | 11, x, _ => x 11 = .pointer (some ⟨kb, 0, none⟩)
  | 12, x, _ => x 12 = .pointer (some ⟨kb, 0, none⟩)
  | 13, x, _ => x 13 = .pointer (some ⟨kb, 0, none⟩)
  | _, _, _ => True
variable {kb B n : Nat} {v i : Value} {y : NodeD} {ns : List NodeD} {x : Nat → Value} {w w' : World}
theorem pa_same {k : Nat} {u : Value} (h6 : k ≠ 6) (h9 : k ≠ 9) (h10 : k ≠ 10) : ∀ j, j ≠ k → PA kb B n v i y ns j x w → PA kb B n v i y ns j (upd x k u) w
  | 0, hn, h => (upd_ne x u hn).trans h
  | 1, hn, h => (upd_ne x u hn).trans h
  | 2, hn, h => (upd_ne x u hn).trans h
  | 3, hn, h => (upd_ne x u hn).trans h
  | 4, hn, h => (upd_ne x u hn).trans h
  | 5, hn, h => (upd_ne x u hn).trans h
  | 6, hn, h => by
    intro hu
    rw [upd_ne x u h10.symm] at hu
    rw [upd_ne x u hn, upd_ne x u h9.symm]
    exact h hu
  | 7, hn, h => (upd_ne x u hn).trans h
  | 8, hn, h => (upd_ne x u hn).trans h
  | 9, hn, h => by
    obtain ⟨g, h1, h2, h3⟩ := h
    refine ⟨g, (upd_ne x u hn).trans h1, h2, fun hu => h3 ?_⟩
    rw [upd_ne x u h10.symm] at hu
    exact hu
  | 10, hn, h => by
    show w.ownsRow B 28 4 (upd x k u 10) (n + 1) (nodeVs (withN ns y))
    rw [upd_ne x u hn]
    exact h
  | 11, hn, h => (upd_ne x u hn).trans h
  | 12, hn, h => (upd_ne x u hn).trans h
  | 13, hn, h => (upd_ne x u hn).trans h
  | _ + 14, _, _ => trivial
theorem anc_no {c : Bool} {C : Prop} (ha : c = false) (h : c = true) : C := by rw [h] at ha; cases ha
theorem below_grownT {B : Nat} {u w : World} {row : Option Nat} (hg : u.grownBy w row) (hB : B ≤ u.heap.size) (hr : ∀ k, row = some k → B ≤ k) : Below B u w := (Below.refl _ _).grown hg hB hr
theorem undef_slice {p : Option Addr} {n c : Nat} : Value.slice p n c ≠ undef := by intro h; cases h
/-- Behind the copy. -/
theorem pa_six {u : Value} (hb : Below w.heap.size w w') : ∀ j, j ≠ 6 → j ≠ 10 → PA kb B n v i y ns j x w → PA kb B n v i y ns j (upd x 6 u) w'
  | 0, hn, _, h => (upd_ne x u hn).trans h
  | 1, hn, _, h => (upd_ne x u hn).trans h
  | 2, hn, _, h => (upd_ne x u hn).trans h
  | 3, hn, _, h => (upd_ne x u hn).trans h
  | 4, hn, _, h => (upd_ne x u hn).trans h
  | 5, hn, _, h => (upd_ne x u hn).trans h
  | 6, hn, _, h => absurd rfl hn
  | 7, hn, _, h => (upd_ne x u hn).trans h
  | 8, hn, _, h => (upd_ne x u hn).trans h
  | 9, hn, _, h => by
    obtain ⟨g, h1, h2, h3⟩ := h
    refine ⟨g, (upd_ne x u hn).trans h1, h2, fun hu => ?_⟩
    rw [upd_ne x u (by decide)] at hu
    have := h3 hu
    exact (hb.block g (heap_lt this)).trans this
  | 10, hn, hn2, h => absurd rfl hn2
  | 11, hn, _, h => (upd_ne x u hn).trans h
  | 12, hn, _, h => (upd_ne x u hn).trans h
  | 13, hn, _, h => (upd_ne x u hn).trans h
  | _ + 14, _, _, _ => trivial
/-- Behind the new row. -/
theorem pa_nine {o : Obj} : ∀ j, j ≠ 9 → j ≠ 10 → PA kb B n v i y ns j x w → PA kb B n v i y ns j (upd x 9 (.slice (some ⟨w.heap.size, 0, none⟩) 1 1)) (w.alloc o)
  | 0, hn, _, h => (upd_ne x _ hn).trans h
  | 1, hn, _, h => (upd_ne x _ hn).trans h
  | 2, hn, _, h => (upd_ne x _ hn).trans h
  | 3, hn, _, h => (upd_ne x _ hn).trans h
  | 4, hn, _, h => (upd_ne x _ hn).trans h
  | 5, hn, _, h => (upd_ne x _ hn).trans h
  | 6, hn, _, h => by
    intro hu
    rw [upd_ne x _ (by decide)] at hu
    obtain ⟨h1, h2⟩ := h hu
    rw [upd_ne x _ hn]
    refine ⟨h1.alloc o, fun g hg e => ?_⟩
    rw [upd_same] at hg
    cases hg
    have := (h1.lt _ e).2
    omega
  | 7, hn, _, h => (upd_ne x _ hn).trans h
  | 8, hn, _, h => (upd_ne x _ hn).trans h
  | 9, hn, _, h => absurd rfl hn
  | 10, hn, hn2, h => absurd rfl hn2
  | 11, hn, _, h => (upd_ne x _ hn).trans h
  | 12, hn, _, h => (upd_ne x _ hn).trans h
  | 13, hn, _, h => (upd_ne x _ hn).trans h
  | _ + 14, _, _, _ => trivial
/-- Behind the insertion. -/
theorem pa_ten {u : Value} (hu : u ≠ undef) : ∀ j, j ≠ 10 → PA kb B n v i y ns j x w → PA kb B n v i y ns j (upd x 10 u) w'
  | 0, hn, h => (upd_ne x u hn).trans h
  | 1, hn, h => (upd_ne x u hn).trans h
  | 2, hn, h => (upd_ne x u hn).trans h
  | 3, hn, h => (upd_ne x u hn).trans h
  | 4, hn, h => (upd_ne x u hn).trans h
  | 5, hn, h => (upd_ne x u hn).trans h
  | 6, hn, h => fun he => absurd (by rw [← he, upd_same]) hu
  | 7, hn, h => (upd_ne x u hn).trans h
  | 8, hn, h => (upd_ne x u hn).trans h
  | 9, hn, h => by
    obtain ⟨g, h1, h2, h3⟩ := h
    exact ⟨g, (upd_ne x u hn).trans h1, h2, fun he => absurd (by rw [← he, upd_same]) hu⟩
  | 10, hn, h => absurd rfl hn
  | 11, hn, h => (upd_ne x u hn).trans h
  | 12, hn, h => (upd_ne x u hn).trans h
  | 13, hn, h => (upd_ne x u hn).trans h
  | _ + 14, _, _ => trivial
end
set_option maxHeartbeats 4000000 in
set_option maxRecDepth 100000 in
theorem add_any (ns : List NodeD) (hr : RiseS ns) (hlen : ns.length ≤ 1000) (y : NodeD) (kb : Nat) (t : TypeId) (v : Value) (nx : Int) (W : World) (hk : W.heap[kb]? = some (.cells (keepV v nx) t)) (hN : NodesV W v ns) :
    Calls Tryz.prog 29 #[.pointer (some ⟨kb, 0, none⟩), .agg (nodeV y)] W fun e w' => e = .returned (.tuple #[]) ∧ KeptBut kb W w' ∧ ∃ v', w'.heap[kb]? = some (.cells (keepV v' nx) t) ∧ w'.ownsRow W.heap.size 28 4 v' (withN ns y).length (nodeVs (withN ns y)) := by
  have HAT : Hid (∀ W', Below W.heap.size W W' → Calls Tryz.prog 27 #[.pointer (some ⟨kb, 0, none⟩), .string (mkB y.path)] W' fun e w' => e = .returned (.tuple #[.int .i64 (lowS ns y.path : Nat), .bool (hasS ns y.path)]) ∧ Below W'.heap.size W' w') := Lib.hid (fun W' hb => at_any ns hr (by omega) y.path kb t v nx W' ((hb.block _ (heap_lt hk)).trans hk) (hN.below hb))
  have HCL : Hid (∀ W', Below W.heap.size W W' → Calls Tryz.prog 45 #[v] W' fun e w' => ∃ v', e = .returned v' ∧ w'.ownsRow W'.heap.size 28 4 v' ns.length (nodeVs ns) ∧ Below W'.heap.size W' w') := Lib.hid (fun W' hb => cloneN_any ns (by omega) v W' (hN.below hb))
  have HK := Lib.hid hk
  have HN := Lib.hid hN
  have hll := lowS_le (l := ns) (x := y.path)
  obtain ⟨i, hi⟩ : ∃ i, i = lowS ns y.path := ⟨_, rfl⟩
  have HI := Lib.hid hi
  rw [← hi] at HAT hll
  have HLEN := Lib.hid hlen
  clear hr hk hN hi
  go_enter Tryz.func29, Tryz.ntmps29
  go_upto_region 2 with (go_at_call 27; refine (HAT.out _ ((Below.refl _ _).alloc (Nat.le_refl _) _)).mono ?_; rintro e w2 ⟨rfl, hb2⟩; have HB2 := Lib.hid hb2; clear hb2)
  have HBW : Hid (Below W.heap.size W w2) := Lib.hid (((Below.refl _ _).alloc (Nat.le_refl _) _).trans (HB2.out.mono (by simp only [heap_len]; omega)))
  have HBX : Hid (w2.heap[W.heap.size]? = some (.cells (nodeV y) 28)) := Lib.hid ((HB2.out.block _ (by simp only [heap_len]; omega)).trans (heap_new _ _ _ rfl))
  have HKB : Hid (w2.heap[kb]? = some (.cells (keepV v nx) t)) := Lib.hid ((HBW.out.block _ (heap_lt HK.out)).trans HK.out)
  refine wp_region_inv2 11 (fun W' => Below w2.heap.size w2 W') (PA kb w2.heap.size ns.length v (.int .i64 (i : Nat)) y ns) (by kernel_rfl) (by kernel_rfl) ⟨rfl, rfl, rfl, Nat.le_refl _, fun _ _ => rfl⟩ (fun j hj => ?_) ?_ ?_
  · match j, hj with
    | 0, _ => rfl
    | 1, _ => rfl
    | 2, _ => rfl
    | 3, _ => rfl
    | 4, _ => rfl
    | 5, _ => rfl
    | 6, _ => rfl
    | 7, _ => rfl
    | 8, _ => rfl
    | 9, _ => rfl
    | 10, _ => rfl
    | n + 11, h => omega
  · refine ⟨?_, ?_, ?_, ?_, ?_, ?_, ?_, ?_, ?_, ?_, ?_, trivial⟩
    · intro x xw hI hd hu hall
      intro K hK
      simp only [List.take_succ_cons, List.take_zero, puts, Act.put, List.getElem_toArray, List.getElem_cons_succ, List.getElem_cons_zero, List.setIfInBounds_toArray, List.set_cons_zero, List.set_cons_succ] at hK ⊢
      have HKK := Lib.hid hK
      clear hK
      refine (if_pos (by rfl)).mpr ?_
      go_simp
      refine HKK.out _ _ hI rfl (fun j hj hne ha => pa_same (by decide) (by decide) (by decide) j hne)
    · intro x xw hI hd hu hall
      intro K hK
      simp only [List.take_succ_cons, List.take_zero, puts, Act.put, List.getElem_toArray, List.getElem_cons_succ, List.getElem_cons_zero, List.setIfInBounds_toArray, List.set_cons_zero, List.set_cons_succ] at hK ⊢
      have HKK := Lib.hid hK
      clear hK
      refine (if_pos (by rfl)).mpr ?_
      go_simp
      refine HKK.out _ _ hI rfl (fun j hj hne ha => pa_same (by decide) (by decide) (by decide) j hne)
    · intro x xw hI hd hu hall
      have d1 : x 1 = .pointer (some ⟨kb, 0, none⟩) := hd 1 (by kernel_rfl)
      intro K hK
      simp only [List.take_succ_cons, List.take_zero, puts, Act.put, List.getElem_toArray, List.getElem_cons_succ, List.getElem_cons_zero, List.setIfInBounds_toArray, List.set_cons_zero, List.set_cons_succ, d1] at hK ⊢
      have HKK := Lib.hid hK
      clear hK
      refine (if_pos (by rfl)).mpr ?_
      go_simp
      refine HKK.out _ _ hI rfl (fun j hj hne ha => pa_same (by decide) (by decide) (by decide) j hne)
    · intro x xw hI hd hu hall
      have d2 : x 2 = .pointer (some ⟨kb, 0, none⟩) := hd 2 (by kernel_rfl)
      intro K hK
      simp only [List.take_succ_cons, List.take_zero, puts, Act.put, List.getElem_toArray, List.getElem_cons_succ, List.getElem_cons_zero, List.setIfInBounds_toArray, List.set_cons_zero, List.set_cons_succ, d2] at hK ⊢
      have HKK := Lib.hid hK
      clear hK
      refine (if_pos (by rfl)).mpr ?_
      go_simp
      refine HKK.out _ _ hI rfl (fun j hj hne ha => pa_same (by decide) (by decide) (by decide) j hne)
    · intro x xw hI hd hu hall
      have d3 : x 3 = .pointer (some ⟨kb, 0, none⟩) := hd 3 (by kernel_rfl)
      intro K hK
      simp only [List.take_succ_cons, List.take_zero, puts, Act.put, List.getElem_toArray, List.getElem_cons_succ, List.getElem_cons_zero, List.setIfInBounds_toArray, List.set_cons_zero, List.set_cons_succ, d3] at hK ⊢
      have HKK := Lib.hid hK
      clear hK
      refine (if_pos (by rfl)).mpr ?_
      go_simp
      refine HKK.out _ _ hI rfl (fun j hj hne ha => pa_same (by decide) (by decide) (by decide) j hne)
    · intro x xw hI hd hu hall
      have d4 : x 4 = .pointer (some ⟨kb, 0, none⟩) := hd 4 (by kernel_rfl)
      have k0 := cell_at (o := 0) ((hI.block _ (heap_lt HKB.out)).trans HKB.out) rfl
      intro K hK
      simp only [List.take_succ_cons, List.take_zero, puts, Act.put, List.getElem_toArray, List.getElem_cons_succ, List.getElem_cons_zero, List.setIfInBounds_toArray, List.set_cons_zero, List.set_cons_succ, d4] at hK ⊢
      have HKK := Lib.hid hK
      clear hK
      refine (if_pos (by rfl)).mpr ?_
      go_simp
      refine HKK.out _ _ hI rfl (fun j hj hne ha => pa_same (by decide) (by decide) (by decide) j hne)
    · intro x xw hI hd hu hall
      have d5 : x 5 = v := hd 5 (by kernel_rfl)
      intro K hK
      simp only [List.take_succ_cons, List.take_zero, puts, Act.put, List.getElem_toArray, List.getElem_cons_succ, List.getElem_cons_zero, List.setIfInBounds_toArray, List.set_cons_zero, List.set_cons_succ, d5] at hK ⊢
      have HKK := Lib.hid hK
      clear hK
      refine (if_pos (by rfl)).mpr ?_
      go_simp
      go_wp2_with (go_at_call 45; refine (HCL.out _ (HBW.out.trans (hI.mono HBW.out.size))).mono ?_; rintro e wC ⟨vC, rfl, hoC, hbC⟩)
      refine HKK.out _ _ (hI.trans (hbC.mono hI.size)) (fun hx => ⟨?_, fun g hg e => ?_⟩) (fun j hj hne ha => pa_six hbC j hne (fun h => by subst h; exact anc_no ha (by kernel_rfl)))
      · rw [upd_same]; exact ownsRow_le hoC hI.size
      · rw [upd_same] at e
        rw [upd_ne x _ (by decide)] at hg
        rcases hall 9 (by decide) with h9 | ⟨g', h9, h9b, h9c⟩
        · rw [h9] at hg; cases hg
        · rw [h9] at hg
          cases hg
          rw [upd_ne x _ (by decide)] at hx
          have := heap_lt (h9c hx)
          have := (hoC.lt _ e).1
          omega
    · intro x xw hI hd hu hall
      intro K hK
      simp only [List.take_succ_cons, List.take_zero, puts, Act.put, List.getElem_toArray, List.getElem_cons_succ, List.getElem_cons_zero, List.setIfInBounds_toArray, List.set_cons_zero, List.set_cons_succ] at hK ⊢
      have HKK := Lib.hid hK
      clear hK
      refine (if_pos (by rfl)).mpr ?_
      go_simp
      refine HKK.out _ _ hI rfl (fun j hj hne ha => pa_same (by decide) (by decide) (by decide) j hne)
    · intro x xw hI hd hu hall
      have b0 := cell_at (o := 0) ((hI.block _ (heap_lt HBX.out)).trans HBX.out) rfl
      have b1 := cell_at (o := 1) ((hI.block _ (heap_lt HBX.out)).trans HBX.out) rfl
      have b2 := cell_at (o := 2) ((hI.block _ (heap_lt HBX.out)).trans HBX.out) rfl
      have b3 := cell_at (o := 3) ((hI.block _ (heap_lt HBX.out)).trans HBX.out) rfl
      intro K hK
      simp only [List.take_succ_cons, List.take_zero, puts, Act.put, List.getElem_toArray, List.getElem_cons_succ, List.getElem_cons_zero, List.setIfInBounds_toArray, List.set_cons_zero, List.set_cons_succ] at hK ⊢
      have HKK := Lib.hid hK
      clear hK
      refine (if_pos (by rfl)).mpr ?_
      go_simp
      refine HKK.out _ _ hI rfl (fun j hj hne ha => pa_same (by decide) (by decide) (by decide) j hne)
    · intro x xw hI hd hu hall
      have d8 : x 8 = .agg (nodeV y) := hd 8 (by kernel_rfl)
      intro K hK
      simp only [List.take_succ_cons, List.take_zero, puts, Act.put, List.getElem_toArray, List.getElem_cons_succ, List.getElem_cons_zero, List.setIfInBounds_toArray, List.set_cons_zero, List.set_cons_succ, d8] at hK ⊢
      have HKK := Lib.hid hK
      clear hK
      refine (if_pos (by rfl)).mpr ?_
      go_simp
      refine HKK.out _ _ (hI.alloc hI.size _) ⟨xw.heap.size, upd_same _ _ _, hI.size, fun _ => heap_new _ _ _ rfl⟩ (fun j hj hne ha => pa_nine j hne (fun h => by subst h; exact anc_no ha (by kernel_rfl)))
    · intro x xw hI hd hu hall
      have d7 : x 7 = .int .i64 (i : Nat) := hd 7 (by kernel_rfl)
      obtain ⟨g, d9, hg1, hg2⟩ : PA kb w2.heap.size ns.length v (.int .i64 (i : Nat)) y ns 9 x xw := hd 9 (by kernel_rfl)
      have d6 : PA kb w2.heap.size ns.length v (.int .i64 (i : Nat)) y ns 6 x xw := hd 6 (by kernel_rfl)
      obtain ⟨d6a, d6b⟩ := d6 hu
      have hgb := hg2 hu
      have hne6 := d6b g d9
      obtain ⟨q6, n6, c6, d6v⟩ := ownsRow_slice d6a
      have hIN := insN_any w2.heap.size (x 6) ns.length i 1 (nodeVs ns) (nodeV y).toList g 0 1 (nodeV y) 28 xw d6a hI.size hll (by decide) (nodeVs_one ns) hgb (fun j u hj => by simpa using hj) rfl (fun u hu => by have := node_one y; rw [Array.all_eq_true_iff_forall_mem] at this; exact this u (by simpa using hu)) hne6 (by have := HLEN.out; omega)
      rw [d6v] at hIN
      intro K hK
      simp only [List.take_succ_cons, List.take_zero, puts, Act.put, List.getElem_toArray, List.getElem_cons_succ, List.getElem_cons_zero, List.setIfInBounds_toArray, List.set_cons_zero, List.set_cons_succ, d7, d9, d6v] at hK ⊢
      have HKK := Lib.hid hK
      clear hK
      refine (if_pos (by rfl)).mpr ?_
      go_simp
      go_wp2_with (go_at_call 58; (with_reducible refine hIN.mono ?_); rintro e wI ⟨vI, rfl, hoI, hgI⟩)
      obtain ⟨qI, nI, cI, rfl⟩ := ownsRow_slice hoI
      refine HKK.out _ _ (hI.trans (below_grownT hgI hI.size (fun k hk => (d6a.lt k (by rw [d6v]; exact hk)).1))) ?_ (fun j hj hne ha => pa_ten undef_slice j hne)
      show wI.ownsRow w2.heap.size 28 4 (upd x 10 _ 10) (ns.length + 1) (nodeVs (withN ns y))
      rw [upd_same, withN_vs, ← HI.out]
      exact hoI
  · intro x W' hI hall
    have d0 : x 0 = .pointer (some ⟨kb, 0, none⟩) := hall 0 (by decide)
    have d10 : W'.ownsRow w2.heap.size 28 4 (x 10) (ns.length + 1) (nodeVs (withN ns y)) := hall 10 (by decide)
    obtain ⟨q10, n10, c10, d10v⟩ := ownsRow_slice d10
    rw [d10v] at d10
    have hkc := (hI.block _ (heap_lt HKB.out)).trans HKB.out
    have k0 := cell_at (o := 0) hkc rfl
    have kfz : W'.frozen? ⟨kb, 0, none⟩ = false := by simp [World.frozen?, hkc]
    have HKC := Lib.hid hkc
    have HD := Lib.hid d10
    clear hall d10 hkc
    simp only [List.take_succ_cons, List.take_zero, puts, Act.put, List.getElem_toArray, List.getElem_cons_succ, List.getElem_cons_zero, List.setIfInBounds_toArray, List.set_cons_zero, List.set_cons_succ, List.drop_succ_cons, List.drop_zero, d0, d10v]
    go_wp2
    go_end0
    have hkl := heap_lt HKB.out
    have hkW := heap_lt HK.out
    have hset : (W'.setCell ⟨kb, 0, none⟩ (.slice q10 n10 c10)).heap[kb]? = some (.cells (keepV (.slice q10 n10 c10) nx) t) := heap_set (o := 0) HKC.out
    have hB := HBW.out.trans (hI.mono HBW.out.size)
    have hrow := ownsRow_setCell_below HD.out (a := ⟨kb, 0, none⟩) hkl (.slice q10 n10 c10)
    rw [show ns.length + 1 = (withN ns y).length from (withN_len ns y).symm] at hrow
    refine ⟨rfl, ⟨hB.os, hB.tape, hB.output, by rw [heap_set_len]; exact hB.size, fun k hk hne => (heap_set_ne _ _ _ _ _ hne).trans (hB.block k hk)⟩, _, hset, ownsRow_le hrow HBW.out.size⟩
end Go.Proofs.YtlpgandflkabcaaGreatDoor
