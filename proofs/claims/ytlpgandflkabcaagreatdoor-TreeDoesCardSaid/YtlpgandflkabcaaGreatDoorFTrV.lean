/-
  The package's few known answers.
-/
import Derived.Test.YtlpgandflkabcaaGreatDoorFTrU
namespace Go.Proofs.YtlpgandflkabcaaGreatDoor
open Go Go.RowKit Go.Shelf
set_option linter.unusedVariables false
set_option linter.unusedSimpArgs false

def aw1 : List NodeD := [⟨[47], true, [], 0⟩]
def aw2 : List NodeD := [⟨[47], true, [], 0⟩, ⟨[47, 97], true, [], 1⟩]
def aw3 : List NodeD := [⟨[47], true, [], 0⟩, ⟨[47, 97], true, [], 1⟩, ⟨[47, 97, 47, 98], false, [], 2⟩]
theorem aw_rise1 : RiseS aw1 := by simp [RiseS, aw1]
theorem aw_rise2 : RiseS aw2 := by unfold RiseS aw2; decide
theorem aw_rise3 : RiseS aw3 := by unfold RiseS aw3; decide
theorem aw_with1 : withN aw1 ⟨[47, 97], true, [], 1⟩ = aw2 := by decide
theorem aw_with2 : withN aw2 ⟨[47, 97, 47, 98], false, [], 2⟩ = aw3 := by decide
theorem aw_path1 : pathB [47, 97] = true := by decide
theorem aw_path2 : pathB [47, 97, 47, 98] = true := by decide
theorem aw_no1 : hasS aw1 [47, 97] = false := by decide
theorem aw_no2 : hasS aw2 [47, 97, 47, 98] = false := by decide
theorem aw_dir1 : dirP [47, 97] = [47] := by decide
theorem aw_dir2 : dirP [47, 97, 47, 98] = [47, 97] := by decide
theorem aw_list : listL aw3 [47, 97] = [[98]] := by decide
theorem aw_filled : (aw3.any fun x => belowQ x.path [47, 97]) = true := by decide
theorem aw_norm : normN [47, 97] [46, 46, 47, 98, 47, 46, 47, 99] = (0, [47, 98, 47, 99]) := by decide
theorem aw_paths : ∀ k (h : k < aw3.length), pathB aw3[k].path = true := by
  intro k h
  exact match k, h with
  | 0, _ => (by decide : pathB [47] = true)
  | 1, _ => aw_path1
  | 2, _ => aw_path2
  | k + 3, h => absurd h (by simp [aw3])
set_option maxRecDepth 100000 in
set_option maxHeartbeats 4000000 in
theorem awake_any (W : World) : Calls Tryz.prog 8 #[] W fun e w' => e = .returned (.bool true) ∧ Below W.heap.size W w' := by
  have HNO : Hid (∀ w, Calls Tryz.prog 22 #[.string ⟨#[47, 97]⟩, .string ⟨#[46, 46, 47, 98, 47, 46, 47, 99]⟩] w fun e w' => e = .returned (.tuple #[.string ⟨#[47, 98, 47, 99]⟩, .int .i64 0]) ∧ Below w.heap.size w w') := Lib.hid (fun w => by
    have := norm_any [47, 97] [46, 46, 47, 98, 47, 46, 47, 99] w (by decide) (by decide)
    rw [aw_norm] at this
    exact this)
  have HM1 : Hid (∀ (v : Value) (w : World), NodesV w v aw1 → Calls Tryz.prog 10 #[.agg (keepV v 1), .string ⟨#[47, 97]⟩, .bool true] w fun e w' => ∃ v', e = .returned (.tuple #[.agg (keepV v' 2), .int .i64 0]) ∧ w'.ownsRow w.heap.size 28 4 v' aw2.length (nodeVs aw2) ∧ Below w.heap.size w w') := Lib.hid (fun v w h => by
    have := make_hit aw1 aw_rise1 (by decide) [47, 97] aw_path1 true aw_no1 0 (by decide) (by rw [aw_dir1]; rfl) rfl v 1 (by decide) (by decide) w h
    rw [aw_with1] at this
    exact this)
  have HM2 : Hid (∀ (v : Value) (w : World), NodesV w v aw2 → Calls Tryz.prog 10 #[.agg (keepV v 2), .string ⟨#[47, 97, 47, 98]⟩, .bool false] w fun e w' => ∃ v', e = .returned (.tuple #[.agg (keepV v' 3), .int .i64 0]) ∧ w'.ownsRow w.heap.size 28 4 v' aw3.length (nodeVs aw3) ∧ Below w.heap.size w w') := Lib.hid (fun v w h => by
    have := make_hit aw2 aw_rise2 (by decide) [47, 97, 47, 98] aw_path2 false aw_no2 1 (by decide) (by rw [aw_dir2]; rfl) rfl v 2 (by decide) (by decide) w h
    rw [aw_with2] at this
    exact this)
  have HLS : Hid (∀ (v : Value) (w : World), NodesV w v aw3 → Calls Tryz.prog 24 #[.agg (keepV v 3), .string ⟨#[47, 97]⟩] w fun e w' => ∃ u, e = .returned (.tuple #[u, .int .i64 0]) ∧ w'.ownsRow w.heap.size 9 1 u 1 [.string ⟨#[98]⟩] ∧ Below w.heap.size w w') := Lib.hid (fun v w h => by
    have := list_dir aw3 aw_rise3 (by decide) aw_paths [47, 97] aw_path1 1 (by decide) rfl rfl v 3 w h
    rw [aw_list] at this
    exact this)
  have HRM : Hid (∀ (v : Value) (w : World), NodesV w v aw3 → Calls Tryz.prog 12 #[.agg (keepV v 3), .string ⟨#[47, 97]⟩, .bool true] w fun e w' => e = .returned (.tuple #[.agg (keepV v 3), .int .i64 39]) ∧ Below w.heap.size w w') := Lib.hid (fun v w h => remove_filled aw3 aw_rise3 (by decide) [47, 97] aw_path1 (by decide) 1 (by decide) rfl rfl aw_filled v 3 w h)
  go_enter Tryz.func8, Tryz.ntmps8
  go_upto_region 3 with (first
    | (go_at_call 22; refine (HNO.out _).mono ?_; rintro e w1 ⟨rfl, hb1⟩; have HB1 := Lib.hid hb1; clear hb1)
    | (go_at_call 23; refine (new_any _).mono ?_; rintro e w2 ⟨v0, rfl, hN0, hb2⟩; have HN0 := Lib.hid hN0; have HB2 : Hid (Below W.heap.size W w2) := Lib.hid (HB1.out.trans (hb2.mono HB1.out.size)); clear hN0 hb2)
    | (go_at_call 10; refine (HM1.out _ _ HN0.out).mono ?_; rintro e w3 ⟨v1, rfl, hN1, hb3⟩; have hN1 := nodesV_of_own hN1; have HN1 := Lib.hid hN1; have HB3 : Hid (Below W.heap.size W w3) := Lib.hid (HB2.out.trans (hb3.mono HB2.out.size)); obtain ⟨q1, c1, rfl⟩ := nodesV_slice hN1; clear hN1 hb3))
  obtain ⟨S, hS⟩ : ∃ S, S = w3.heap.size := ⟨_, rfl⟩
  obtain ⟨W3, hW3⟩ : ∃ W3, W3 = w3.alloc (.cells #[.slice q1 aw2.length c1, .int .i64 2] 24) := ⟨_, rfl⟩
  have HA : Hid (Below W.heap.size W W3 ∧ W3.heap.size = S + 1 ∧ W.heap.size ≤ S ∧ NodesV W3 (.slice q1 aw2.length c1) aw2 ∧ W3.heap[S]? = some (.cells (keepV (.slice q1 aw2.length c1) 2) 24)) := Lib.hid (by
    rw [hW3, hS]
    exact ⟨HB3.out.alloc HB3.out.size _, heap_len _ _, HB3.out.size, HN1.out.below ((Below.refl _ _).alloc (Nat.le_refl _) _), heap_new _ _ _ rfl⟩)
  rw [← hW3, ← hS]
  have s0 := cell_at (o := 0) HA.out.2.2.2.2 rfl
  have s1 := cell_at (o := 1) HA.out.2.2.2.2 rfl
  clear hW3 hS
  have HZ : Hid (∀ w4, Below W3.heap.size W3 w4 → w4.heap[S]? = some (.cells (keepV (.slice q1 aw2.length c1) 2) 24)) := Lib.hid (fun w4 h => (h.block _ (by rw [HA.out.2.1]; omega)).trans HA.out.2.2.2.2)
  go_upto_region 4 with (first
    | (go_at_call 10; refine (HM2.out _ _ HA.out.2.2.2.1).mono ?_; rintro e w4 ⟨v2, rfl, hO2, hb4⟩; have HO2 := Lib.hid hO2; have HZ4 := Lib.hid (HZ.out _ hb4); have HB4 : Hid (Below W.heap.size W w4) := Lib.hid (HA.out.1.trans (hb4.mono HA.out.1.size)); obtain ⟨q2, c2, rfl⟩ := nodesV_slice (nodesV_of_own hO2); clear hO2 hb4)
    | (refine wpl_store 24 ?_; intro ee he; refine wpList_store_row he _ _ _ ee S (keepV (.slice q2 aw3.length c2) 3) rfl rfl 24 (keepV (.slice q1 aw2.length c1) 2) HZ4.out (tree_size _ _) rfl (tree_one _) ?_))
  obtain ⟨W4, hW4⟩ : ∃ W4, W4 = w4.setRow S (keepV (.slice q2 aw3.length c2) 3) := ⟨_, rfl⟩
  have HA4 : Hid (Below W.heap.size W W4 ∧ NodesV W4 (.slice q2 aw3.length c2) aw3 ∧ W4.heap[S]? = some (.cells (keepV (.slice q2 aw3.length c2) 3) 24)) := Lib.hid (by
    rw [hW4]
    exact ⟨below_row HB4.out _ _ HA.out.2.2.1, nodesV_of_own (ownsRow_above HO2.out (row_len _ _ _) (fun k hk => row_ne _ _ _ _ (by have := HA.out.2.1; omega))), row_same HZ4.out⟩)
  rw [← hW4]
  have r0 := cell_at (o := 0) HA4.out.2.2 rfl
  have r1 := cell_at (o := 1) HA4.out.2.2 rfl
  clear hW4 s0 s1
  go_upto_region 6 with (first
    | (go_at_call 24; refine (HLS.out _ _ HA4.out.2.1).mono ?_; rintro e w5 ⟨u, rfl, hO5, hb5⟩; obtain ⟨g, cap, rfl⟩ := ownsRow_succ hO5; have HO5 := Lib.hid hO5; have HB5 := Lib.hid hb5; have r0 := cell_at (o := 0) ((hb5.block _ (heap_lt HA4.out.2.2)).trans HA4.out.2.2) rfl; have r1 := cell_at (o := 1) ((hb5.block _ (heap_lt HA4.out.2.2)).trans HA4.out.2.2) rfl; clear hO5 hb5)
    | (go_at_call 12; refine (HRM.out _ _ (HA4.out.2.1.below HB5.out)).mono ?_; rintro e w6 ⟨rfl, hb6⟩; have HB6 := Lib.hid hb6; clear hb6))
  have HO6 : Hid (w6.ownsRow W4.heap.size 9 1 (.slice (some ⟨g, 0, none⟩) 1 cap) 1 [.string ⟨#[98]⟩]) := Lib.hid (ownsRow_below HO5.out HB6.out)
  have g0 : ∀ o, (w6.alloc o).cell? ⟨g, 0, none⟩ = some (.string ⟨#[98]⟩) := fun o => by
    have := (HO6.out.alloc o).cells rfl 0 (.string ⟨#[98]⟩) rfl
    exact this
  have HBF : Hid (Below W.heap.size W w6) := Lib.hid ((HA4.out.1.trans (HB5.out.mono HA4.out.1.size)).trans (HB6.out.mono (Nat.le_trans HA4.out.1.size HB5.out.size)))
  go_wp2
  go_ret
  exact ⟨rfl, HBF.out.alloc HBF.out.size _⟩
end Go.Proofs.YtlpgandflkabcaaGreatDoor
