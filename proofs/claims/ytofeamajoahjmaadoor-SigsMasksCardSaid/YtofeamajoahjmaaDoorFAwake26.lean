/-
  sigs: the examples of chapter 26.
-/
import Derived.Test.YtofeamajoahjmaaDoorFSgx
namespace Go.Proofs.YtofeamajoahjmaaDoor
open Go Go.RowKit
set_option linter.unusedVariables false
set_option linter.unusedSimpArgs false

theorem next_low {cs : Array Value} {c : Nat} (h : canN cs = c) (h9 : c &&& 256 = 0) (h0 : clr9 c ≠ 0) : nextI cs = takeE (Lib.ctz 64 (clr9 c)) ∧ nextA cs = takeA cs (takeE (Lib.ctz 64 (clr9 c))) := by
  have : readyL (canN cs) = Lib.ctz 64 (clr9 c) :: lowF (clr9 c &&& (clr9 c - 1)) := by rw [h, readyL, if_pos h9, lowF_step h0]; rfl
  rw [nextI, nextA, this]
  exact ⟨rfl, rfl⟩

def sA1 : Array Value := sigZ.setIfInBounds 1 (.int .u64 1024)
def sA2 : Array Value := sigZ.setIfInBounds 1 (.int .u64 1026)
def sA3 : Array Value := sA2.setIfInBounds 0 (.int .u64 2)
theorem sA1_is : raiseA sigZ 10 = sA1 := by kernel_rfl
theorem sA2_is : raiseA sA1 1 = sA2 := by kernel_rfl
set_option maxRecDepth 100000 in
theorem sA1_fits : Fits sigK sA1.toList := by
  rw [sA1]
  exact sig_set_w sigZ_fits ⟨by omega, by omega⟩
set_option maxRecDepth 100000 in
theorem sA2_fits : Fits sigK sA2.toList := by
  rw [sA2]
  exact sig_set_w sigZ_fits ⟨by omega, by omega⟩
set_option maxRecDepth 100000 in
theorem sA3_fits : Fits sigK sA3.toList := by
  rw [sA3]
  exact sig_set_m sA2_fits ⟨by omega, by omega⟩
theorem nA2 : nextI sA2 = 2 ∧ nextA sA2 = takeA sA2 2 := next_low (c := 1026) (by kernel_rfl) (by decide) (by decide)
theorem nB2 : nextI (takeA sA2 2) = 11 := (next_low (c := 1024) (by kernel_rfl) (by decide) (by decide)).1
theorem nC2 : nextI sA3 = 11 := (next_low (c := 1024) (by kernel_rfl) (by decide) (by decide)).1

theorem tab_below {w w' : World} (h : Below w.heap.size w w') (t : TabAt w) : TabAt w' := keepT_of (h.block _ (block_lt_of_cell (t 0 (by omega)))) t

set_option maxHeartbeats 2000000 in
set_option maxRecDepth 10000 in
theorem awake26_any (w : World) (hT : TabAt w) :
    Calls Tryd.prog 9 #[] w fun e w' => e = .returned (.bool true) ∧ Below w.heap.size w w' := by
  have z1 := (zero_of_info sig_zero).1
  have HT := Lib.hid hT
  clear hT
  go_enter Tryd.func9, Tryd.ntmps9
  go_upto_region 2 with (first
    | (refine wpList_buildTo rfl 30 #[] rfl (some 10) rfl sigZ (by kernel_rfl) ?_)
    | (go_at_call 12; refine (sgRaise sigZ sigZ_fits 10 (by omega) _).mono ?_; rintro e w1 ⟨rfl, hb1⟩; rw [sA1_is])
    | (refine wpl_store 30 ?_; refine StoreGoal.of sA1 sigZ rfl rfl (heap_new _ _ _ rfl) sA1_fits sigZ_fits sig_size ?_))
  obtain ⟨W1, hW1⟩ : ∃ W1, W1 = (w1.alloc (.cells sigZ 30)).setRow w1.heap.size sA1 := ⟨_, rfl⟩
  obtain ⟨b1, hB⟩ : ∃ b1, b1 = w1.heap.size := ⟨_, rfl⟩
  have G1 : Hid (W1.heap[b1]? = some (.cells sA1 30)) := Lib.hid (by rw [hW1, hB]; exact row_same (heap_new _ _ _ rfl))
  have HB1 : Hid (Below w.heap.size w W1) := Lib.hid (by rw [hW1]; exact below_row (hb1.alloc hb1.size _) _ _ hb1.size)
  have hwb : w.heap.size ≤ b1 := by rw [hB]; exact hb1.size
  have hz1 : b1 < W1.heap.size := heap_lt G1.out
  rw [← hW1, ← hB]
  clear hW1 hB hb1
  have HN2 := Lib.hid nA2; have HN3 := Lib.hid nB2; have HN4 := Lib.hid nC2
  go_upto_region 3 with (first
    | (refine wpl_load 30 ?_; refine LoadGoal.of sA1 rfl G1.out (by kernel_rfl) (sig_sz sA1_fits) rfl ?_)
    | (go_at_call 12; refine (sgRaise sA1 sA1_fits 1 (by omega) _).mono ?_; rintro e w2 ⟨rfl, hb2⟩; rw [sA2_is])
    | (refine wpl_store 30 ?_; refine StoreGoal.of sA2 sA1 rfl rfl ((hb2.block _ hz1).trans G1.out) sA2_fits sA1_fits sig_size ?_))
  obtain ⟨W2, hW2⟩ : ∃ W2, W2 = w2.setRow b1 sA2 := ⟨_, rfl⟩
  have G2 : Hid (W2.heap[b1]? = some (.cells sA2 30)) := Lib.hid (by rw [hW2]; exact row_same ((hb2.block _ hz1).trans G1.out))
  have HB2 : Hid (Below w.heap.size w W2) := Lib.hid (by rw [hW2]; exact below_row (HB1.out.trans (hb2.mono HB1.out.size)) _ _ hwb)
  have hz2 : b1 < W2.heap.size := heap_lt G2.out
  rw [← hW2]
  clear hW2 hb2 G1 HB1 hz1
  go_upto_region 4 with (first
    | (refine wpl_load 30 ?_; refine LoadGoal.of sA2 rfl G2.out (by kernel_rfl) (sig_sz sA2_fits) rfl ?_)
    | (go_at_call 10; refine (sgNext sA2 sA2_fits _ (tab_below HB2.out HT.out)).mono ?_; rintro e w3 ⟨rfl, hb3⟩; rw [HN2.out.1, HN2.out.2])
    | (refine wpl_store 30 ?_; refine StoreGoal.of (takeA sA2 2) sigZ rfl rfl (heap_new _ _ _ rfl) (take_fits sA2_fits 2) sigZ_fits sig_size ?_))
  obtain ⟨W3, hW3⟩ : ∃ W3, W3 = (w3.alloc (.cells sigZ 30)).setRow w3.heap.size (takeA sA2 2) := ⟨_, rfl⟩
  obtain ⟨b3, hB⟩ : ∃ b3, b3 = w3.heap.size := ⟨_, rfl⟩
  have hz3 : b1 < b3 := by rw [hB]; exact Nat.lt_of_lt_of_le hz2 hb3.size
  have G3 : Hid (W3.heap[b1]? = some (.cells sA2 30)) := Lib.hid (by rw [hW3]; exact (row_ne _ _ _ _ (by omega)).trans ((heap_old _ _ _ (by omega)).trans ((hb3.block _ hz2).trans G2.out)))
  have G4 : Hid (W3.heap[b3]? = some (.cells (takeA sA2 2) 30)) := Lib.hid (by rw [hW3, hB]; exact row_same (heap_new _ _ _ rfl))
  have HB3 : Hid (Below w.heap.size w W3) := Lib.hid (by rw [hW3]; exact below_row ((HB2.out.trans (hb3.mono HB2.out.size)).alloc (by omega) _) _ _ (by omega))
  rw [← hW3, ← hB]
  clear hW3 hB hb3 G2 HB2
  go_upto_region 5 with (first
    | (refine wpl_load 30 ?_; refine LoadGoal.of (takeA sA2 2) rfl G4.out (by kernel_rfl) (sig_sz (take_fits sA2_fits 2)) rfl ?_)
    | (go_at_call 10; refine (sgNext (takeA sA2 2) (take_fits sA2_fits 2) _ (tab_below HB3.out HT.out)).mono ?_; rintro e w4 ⟨rfl, hb4⟩; rw [HN3.out])
    | (refine wpl_store 30 ?_; refine StoreGoal.of (nextA (takeA sA2 2)) sigZ rfl rfl (heap_new _ _ _ rfl) (next_fits (take_fits sA2_fits 2)) sigZ_fits sig_size ?_))
  obtain ⟨W4, hW4⟩ : ∃ W4, W4 = (w4.alloc (.cells sigZ 30)).setRow w4.heap.size (nextA (takeA sA2 2)) := ⟨_, rfl⟩
  have hz4 : b1 < w4.heap.size := Nat.lt_of_lt_of_le (heap_lt G3.out) hb4.size
  have G5 : Hid (W4.heap[b1]? = some (.cells sA2 30)) := Lib.hid (by rw [hW4]; exact (row_ne _ _ _ _ (by omega)).trans ((heap_old _ _ _ hz4).trans ((hb4.block _ (heap_lt G3.out)).trans G3.out)))
  have HB4 : Hid (Below w.heap.size w W4) := Lib.hid (by rw [hW4]; exact below_row ((HB3.out.trans (hb4.mono HB3.out.size)).alloc (by omega) _) _ _ (by omega))
  rw [← hW4]
  clear hW4 hb4 G3 G4 HB3 hz4
  have l1 := cell_at (o := 0) (v := .int .u64 0) G5.out (by kernel_rfl)
  have l2 := free_at (o := 0) G5.out
  go_upto_region 6 with fail
  have hg6 : Hid ((W4.setCell ⟨b1, 0, none⟩ (.int .u64 2)).heap[b1]? = some (.cells sA3 30)) := Lib.hid (heap_set G5.out)
  have HB6 : Hid (Below w.heap.size w (W4.setCell ⟨b1, 0, none⟩ (.int .u64 2))) := Lib.hid (HB4.out.setCell hwb _)
  obtain ⟨W5, hW5⟩ : ∃ W5, W5 = W4.setCell ⟨b1, 0, none⟩ (.int .u64 2) := ⟨_, rfl⟩
  rw [← hW5] at hg6 HB6 ⊢
  clear hW5 l1 l2 G5 HB4
  go_upto_region 7 with (first
    | (refine wpl_load 30 ?_; refine LoadGoal.of sA3 rfl hg6.out (by kernel_rfl) (sig_sz sA3_fits) rfl ?_)
    | (go_at_call 10; refine (sgNext sA3 sA3_fits _ (tab_below HB6.out HT.out)).mono ?_; rintro e w6 ⟨rfl, hb6⟩; rw [HN4.out])
    | (refine wpl_store 30 ?_; refine StoreGoal.of (nextA sA3) sigZ rfl rfl (heap_new _ _ _ rfl) (next_fits sA3_fits) sigZ_fits sig_size ?_))
  go_wp2
  go_ret
  exact ⟨rfl, below_row ((HB6.out.trans (hb6.mono HB6.out.size)).alloc (Nat.le_trans HB6.out.size hb6.size) _) _ _ (Nat.le_trans HB6.out.size hb6.size)⟩
end Go.Proofs.YtofeamajoahjmaaDoor
