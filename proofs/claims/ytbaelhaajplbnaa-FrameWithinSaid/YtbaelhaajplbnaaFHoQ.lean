/-
  host.set: a cell's word in a list that the call owns.
-/
import Derived.Test.YtbaelhaajplbnaaFHoM
import Derived.Test.YtbaelhaajplbnaaFSlInsC
import Derived.Test.YtbaelhaajplbnaaFSlDelC
namespace Go.Proofs.Ytbaelhaajplbnaa
open Go Go.RowKit
set_option linter.unusedVariables false
set_option linter.unusedSimpArgs false

theorem cellVs_take : ∀ (l : List CellD) (k : Nat), (cellVs l).take (k * 2) = cellVs (l.take k)
  | [], k => by simp [cellVs]
  | c :: l, 0 => by simp [cellVs]
  | c :: l, k + 1 => by
    have := cellVs_take l k
    have e : cellVs (c :: l) = .int .u64 (c.pos : Nat) :: .int .u64 (c.word : Nat) :: cellVs l := rfl
    rw [e, show (k + 1) * 2 = k * 2 + 1 + 1 by omega, List.take_succ_cons, List.take_succ_cons, this]
    rfl
theorem cellVs_drop : ∀ (l : List CellD) (k : Nat), (cellVs l).drop (k * 2) = cellVs (l.drop k)
  | [], k => by simp [cellVs]
  | c :: l, 0 => by simp [cellVs]
  | c :: l, k + 1 => by
    have := cellVs_drop l k
    have e : cellVs (c :: l) = .int .u64 (c.pos : Nat) :: .int .u64 (c.word : Nat) :: cellVs l := rfl
    rw [e, show (k + 1) * 2 = k * 2 + 1 + 1 by omega, List.drop_succ_cons, List.drop_succ_cons, this]
    rfl
theorem cellVs_app (a b : List CellD) : cellVs a ++ cellVs b = cellVs (a ++ b) := by simp [cellVs]
theorem cellVs_set (l : List CellD) (k x : Nat) (hk : k < l.length) : (cellVs l).set (k * 2 + 1) (.int .u64 (x : Nat)) = cellVs (l.take k ++ ⟨l[k].pos, x⟩ :: l.drop (k + 1)) := by
  induction l generalizing k with
  | nil => simp at hk
  | cons c l ih =>
    have e : ∀ c l, cellVs (c :: l) = .int .u64 (c.pos : Nat) :: .int .u64 (c.word : Nat) :: cellVs l := fun _ _ => rfl
    cases k with
    | zero => rfl
    | succ k =>
      rw [e, show (k + 1) * 2 + 1 = k * 2 + 1 + 1 + 1 by omega, List.set_cons_succ, List.set_cons_succ, ih k (by simpa using hk)]
      rfl

set_option maxHeartbeats 4000000 in
set_option maxRecDepth 100000 in
theorem set_any (B : Nat) (cs : List CellD) (hr : Rise CellD.pos cs) (hlen : cs.length ≤ 900000) (x y : Nat) (hx : x < 18446744073709551616) (hy : y < 18446744073709551616) (v : Value) (w : World) (hown : w.ownsRow B 85 2 v cs.length (cellVs cs)) (hB : B ≤ w.heap.size) :
    Calls Try.prog 57 #[v, .int .u64 (x : Nat), .int .u64 (y : Nat)] w fun e w' => ∃ v', e = .returned v' ∧ w'.ownsRow B 85 2 v' (setL cs x y).length (cellVs (setL cs x y)) ∧ Below B w w' := by
  have HP := Lib.hid (plS_any cs hr (by omega) x v w (cellsV_of_own hown))
  have HO := Lib.hid hown; have HR := Lib.hid hr; have HB := Lib.hid hB
  have hS := setL_low cs hr x y
  have hblk := hown.lt
  have HBLK := Lib.hid hblk
  obtain ⟨k, hk⟩ : ∃ k, k = lowB CellD.pos cs x := ⟨_, rfl⟩
  have hkl : k ≤ cs.length := by rw [hk]; exact lowB_le
  have hki : (k : Int) ≤ (cs.length : Int) := by omega
  have hli : (cs.length : Int) ≤ 900000 := by omega
  rw [← hk] at HP hS
  cases hb : hasB CellD.pos cs x with
  | true =>
    obtain ⟨h1, h2⟩ := (hasB_at hr).1 hb
    have hkc : k < cs.length := by rw [hk]; exact h1
    have hkp : cs[k].pos = x := by simp only [hk]; exact h2
    rw [hb] at HP hS
    rw [if_pos rfl] at hS
    obtain ⟨g, cap, rfl⟩ := own_some hown (by omega)
    by_cases h0 : y = 0
    · subst h0
      rw [if_pos rfl] at hS
      have HD : Hid (∀ W, Below w.heap.size w W → Calls Try.prog 68 #[.slice (some ⟨g, 0, none⟩) cs.length cap, .int .i64 k, .int .i64 ((k : Int) + 1)] W fun e w' => ∃ v', e = .returned v' ∧ w'.ownsRow B 85 2 v' (setL cs x 0).length (cellVs (setL cs x 0)) ∧ Below B W w') := Lib.hid (fun W hW => by
        have h := delC_any B _ cs.length k (k + 1) (cellVs cs) W (own_below HO.out hW) (by omega) (by omega) (cellVs_one cs)
        rw [show (((k + 1 : Nat) : Int)) = (k : Int) + 1 by omega] at h
        refine h.mono ?_
        rintro e w' ⟨v', rfl, k1, k2⟩
        refine ⟨v', rfl, ?_, below_grown k2 (fun q hq => (HBLK.out q hq).1) (Nat.le_trans HB.out hW.size)⟩
        rw [hS, ← cellVs_app, ← cellVs_take, ← cellVs_drop]
        rw [List.length_append, List.length_take, List.length_drop, show min k cs.length + (cs.length - (k + 1)) = k + (cs.length - (k + 1)) by omega]
        exact k1)
      clear hS hown hr hB hblk hb h1 h2 hkp hk hx hy
      go_enter Try.func57, Try.ntmps57
      go_wp2_with (first
        | (go_at_call 66; (with_reducible refine HP.out.mono ?_); rintro e w1 ⟨rfl, hb1⟩; have HB1 := Lib.hid hb1; clear hb1)
        | (go_at_call 68; (with_reducible refine (HD.out _ HB1.out).mono ?_); rintro e w2 ⟨v', rfl, k1, k2⟩; have K1 := Lib.hid k1; have K2 := Lib.hid k2; clear k1 k2))
      go_ret
      exact ⟨v', rfl, K1.out, (HB1.out.mono HB.out).trans K2.out⟩
    · rw [if_neg h0] at hS
      have hyn : ((y : Int) == 0) = false := beq_eq_false_iff_ne.2 (by omega)
      have hST : Hid (∀ W, Below w.heap.size w W → ∃ cur, W.heap[g]? = some (.cells cur 85 (0, 0)) ∧ k * 2 + 1 < cur.size ∧ (W.setCell ⟨g, k * 2 + 1, none⟩ (.int .u64 y)).ownsRow B 85 2 (.slice (some ⟨g, 0, none⟩) cs.length cap) (setL cs x y).length (cellVs (setL cs x y)) ∧ Below B W (W.setCell ⟨g, k * 2 + 1, none⟩ (.int .u64 y))) := Lib.hid (fun W hW => by
        obtain ⟨c1, c2⟩ := own_below HO.out hW
        rcases c2 with ⟨_, c3⟩ | ⟨g', cap', cur, e, hBg, hg, hn, hm, hs, ht⟩
        · omega
        · cases e
          have hl1 : (setL cs x y).length = cs.length := by rw [hS]; simp; omega
          refine ⟨cur, hg, by omega, ⟨cellVs_len _, .inr ⟨g, cap, _, by rw [hl1], hBg, heap_set hg, by rw [hl1]; exact hn, hm, by rw [Array.size_setIfInBounds]; exact hs, ?_⟩⟩, (Below.refl _ _).setCell hBg _⟩
          have hset := cellVs_set cs k y hkc
          rw [hkp] at hset
          rw [hl1, hS, ← hset, ← ht, Array.toList_setIfInBounds, List.take_set])
      clear hS hown hr hB hblk hb h1 h2 hk hx hy h0 hkp
      go_enter Try.func57, Try.ntmps57
      go_upto_region 5 with (go_at_call 66; (with_reducible refine HP.out.mono ?_); rintro e w1 ⟨rfl, hb1⟩; have HB1 := Lib.hid hb1; clear hb1)
      obtain ⟨cur, s1, s2, s3, s4⟩ := hST.out _ HB1.out
      obtain ⟨u0, hu0⟩ : ∃ u0, cur[k * 2 + 1]? = some u0 := ⟨_, Array.getElem?_eq_getElem s2⟩
      have c0 := cell_at (o := k * 2 + 1) s1 hu0
      have f0 := free_at (o := k * 2 + 1) s1
      have S3 := Lib.hid s3; have S4 := Lib.hid s4
      clear s1 s2 s3 s4 hu0
      go_wp2
      go_ret
      exact ⟨_, rfl, S3.out, (HB1.out.mono HB.out).trans S4.out⟩
  | false =>
    rw [hb] at HP hS
    rw [if_neg (by simp)] at hS
    by_cases h0 : y = 0
    · subst h0
      rw [if_pos rfl] at hS
      rw [hS]
      clear hS hown hr hB hblk hb hk hx hy
      go_enter Try.func57, Try.ntmps57
      go_wp2_with (go_at_call 66; (with_reducible refine HP.out.mono ?_); rintro e w1 ⟨rfl, hb1⟩; have HB1 := Lib.hid hb1; clear hb1)
      go_ret
      exact ⟨v, rfl, own_below HO.out HB1.out, HB1.out.mono HB.out⟩
    · rw [if_neg h0] at hS
      have hyn : ((y : Int) != 0) = true := by simp; omega
      have HI : Hid (∀ W, Below w.heap.size w W → ∀ T, Calls Try.prog 69 #[v, .int .i64 k, .slice (some ⟨W.heap.size, 0, none⟩) 1 1] (W.alloc (.cells #[.int .u64 x, .int .u64 y] T)) fun e w' => ∃ v', e = .returned v' ∧ w'.ownsRow B 85 2 v' (setL cs x y).length (cellVs (setL cs x y)) ∧ Below B W w') := Lib.hid (fun W hW T => by
        have hWo := own_below HO.out hW
        have h := insC_any B _ cs.length k 1 (cellVs cs) [.int .u64 x, .int .u64 y] W.heap.size 0 1 _ T (W.alloc (.cells #[.int .u64 x, .int .u64 y] T)) (hWo.alloc _) (by rw [heap_len]; have := hW.size; have := HB.out; omega) (by omega) (by omega) (cellVs_one cs) (heap_new _ _ _ rfl)
          (fun j u hj => by
            match j, hj with
            | 0, hj => simpa using hj
            | 1, hj => simpa using hj
            | j + 2, hj => simp at hj) rfl (by intro u hu; simp at hu; rcases hu with rfl | rfl <;> rfl) (fun e => by have := (hWo.lt _ e).2; omega) (by omega)
        refine h.mono ?_
        rintro e w' ⟨v', rfl, k1, k2⟩
        refine ⟨v', rfl, ?_, ((Below.refl _ W).alloc (Nat.le_trans HB.out hW.size) _).trans (below_grown k2 (fun q hq => (HBLK.out q hq).1) (by rw [heap_len]; have := hW.size; have := HB.out; omega))⟩
        rw [hS]
        have e1 : cellVs (cs.take k ++ ⟨x, y⟩ :: cs.drop k) = (cellVs cs).take (k * 2) ++ [.int .u64 x, .int .u64 y] ++ (cellVs cs).drop (k * 2) := by
          rw [cellVs_take, cellVs_drop]; simp [cellVs]
        rw [e1]
        rw [List.length_append, List.length_take, List.length_cons, List.length_drop, show min k cs.length + (cs.length - k + 1) = cs.length + 1 by omega]
        exact k1)
      clear hS hown hr hB hblk hb hk hx hy h0
      go_enter Try.func57, Try.ntmps57
      go_wp2_with (first
        | (go_at_call 66; (with_reducible refine HP.out.mono ?_); rintro e w1 ⟨rfl, hb1⟩; have HB1 := Lib.hid hb1; clear hb1)
        | (go_at_call 69; (with_reducible refine (HI.out _ HB1.out _).mono ?_); rintro e w2 ⟨v', rfl, k1, k2⟩; have K1 := Lib.hid k1; have K2 := Lib.hid k2; clear k1 k2))
      go_ret
      exact ⟨v', rfl, K1.out, (HB1.out.mono HB.out).trans K2.out⟩
end Go.Proofs.Ytbaelhaajplbnaa
