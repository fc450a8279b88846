/-
  SigsMasks: a mask that was changed and set back is as before; what was raised and is not ignored is taken sooner or later, if it is not masked.
-/
import Derived.Test.YtofeamajoahjmaaDoorFChg
namespace Go.Proofs.YtofeamajoahjmaaDoor
open Go Go.RowKit
set_option linter.unusedVariables false
set_option linter.unusedSimpArgs false

set_option maxHeartbeats 4000000 in
set_option maxRecDepth 100000 in
theorem masks_walk (cs : Array Value) (h : Fits sigK cs.toList) (how : Int) (m : Int) (hm : (Lit.int .u64 m).wf = true) (n : Int) (hn : (Lit.int .u8 n).wf = true) (w : World) (hT : TabAt w) :
    Calls Tryd.prog 4 #[.agg cs, .int .i64 how, .int .u64 m, .int .u8 n] w fun e w' => e = .returned (.bool true) ∧ Below w.heap.size w w' := by
  have HT := Lib.hid hT
  have H := Lib.hid h
  rw [wf_u8] at hn
  obtain ⟨n1, n2⟩ := hn
  obtain ⟨k, hk⟩ : ∃ k : Nat, n % 64 = k := ⟨(n % 64).toNat, by omega⟩
  have hk64 : k < 64 := by omega
  clear h hT hm
  have z1 := (zero_of_info sig_zero).1
  cases c1 : fitSig cs
  · have C1 := Lib.hid c1; clear c1
    go_enter Tryd.func4, Tryd.ntmps4
    go_upto_region 2 with (first
      | (refine wpl_load 30 ?_; refine LoadGoal.of cs (t := 30) (fr := (0, 0)) rfl (heap_new _ _ _ rfl) (by kernel_rfl) (sig_sz H.out) rfl ?_)
      | (go_at_call 8; refine (fit26_any cs H.out _).mono ?_; rintro e w' ⟨rfl, mq, rfl⟩; rw [C1.out]))
    obtain ⟨W, hW⟩ : ∃ W, W = ((w.alloc (.cells cs 30)).alloc (.cells cs 30)).drewN mq := ⟨_, rfl⟩
    have HB : Hid (Below w.heap.size w W) := Lib.hid (by rw [hW]; (repeat (first | exact Below.refl _ _ | (refine below_drewN ?_ _) | (refine Below.alloc ?_ (by (try simp only [heap_len, heap_drewN]); omega) _))))
    rw [← hW]
    clear hW
    go_wp2_with (go_at_call 9; refine (awake26_any _ (tab_below HB.out HT.out)).mono ?_; rintro e w' ⟨rfl, hb⟩)
    go_ret
    exact ⟨rfl, HB.out.trans (hb.mono HB.out.size)⟩
  · have C1 := Lib.hid c1; clear c1
    go_enter Tryd.func4, Tryd.ntmps4
    go_upto_region 3 with (first
      | (refine wpl_load 30 ?_; refine LoadGoal.of cs (t := 30) (fr := (0, 0)) rfl (heap_new _ _ _ rfl) (by kernel_rfl) (sig_sz H.out) rfl ?_)
      | (go_at_call 8; refine (fit26_any cs H.out _).mono ?_; rintro e w' ⟨rfl, mq, rfl⟩; rw [C1.out]))
    obtain ⟨W, hW⟩ : ∃ W, W = ((w.alloc (.cells cs 30)).alloc (.cells cs 30)).drewN mq := ⟨_, rfl⟩
    have B1 : Hid (W.heap[w.heap.size]? = some (.cells cs 30)) := Lib.hid (by rw [hW]; exact (heap_old _ _ _ (by simp only [heap_len]; omega)).trans (heap_new _ _ _ rfl))
    have HB : Hid (Below w.heap.size w W) := Lib.hid (by rw [hW]; (repeat (first | exact Below.refl _ _ | (refine below_drewN ?_ _) | (refine Below.alloc ?_ (by (try simp only [heap_len, heap_drewN]); omega) _))))
    rw [← hW]
    clear hW
    have hg : Tryd.prog.eqGuardType Tryd.prog.depth 30 = false := by kernel_rfl
    have q : ∀ W, (Op.equalIn 10000 30 (.agg cs) (.agg cs)).run Tryd.prog W = .ok true W := eq_self_sig H.out
    by_cases hh : how < 1 ∨ 3 < how
    · have HCN : Hid (∀ W, Calls Tryd.prog 11 #[.agg cs, .int .i64 how, .int .u64 m] W fun e w' => e = .returned (.tuple #[.agg cs, .int .u64 0, .int .i64 22]) ∧ Below W.heap.size W w') := Lib.hid (fun W => sgChange_no cs H.out how m hh W)
      have hor : (decide (how < 1) || decide (3 < how)) = true := by rcases hh with c | c <;> simp [c]
      clear hh
      go_upto_region 5 with (first
        | (refine wpl_load 30 ?_; refine LoadGoal.of cs rfl B1.out (by kernel_rfl) (sig_sz H.out) rfl ?_)
        | (go_at_call 11; refine (HCN.out _).mono ?_; rintro e w2 ⟨rfl, hb2⟩)
        | (refine wpl_store 30 ?_; refine StoreGoal.of cs sigZ rfl rfl (heap_new _ _ _ rfl) H.out sigZ_fits sig_size ?_))
      obtain ⟨W2, hW2⟩ : ∃ W2, W2 = (w2.alloc (.cells sigZ 30)).setRow w2.heap.size cs := ⟨_, rfl⟩
      obtain ⟨b, hb⟩ : ∃ b, b = w2.heap.size := ⟨_, rfl⟩
      have hlt : w.heap.size < b := by rw [hb]; exact Nat.lt_of_lt_of_le (heap_lt B1.out) hb2.size
      have G1 : Hid (W2.heap[w.heap.size]? = some (.cells cs 30)) := Lib.hid (by rw [hW2]; exact (row_ne _ _ _ _ (by omega)).trans ((heap_old _ _ _ (by omega)).trans ((hb2.block _ (heap_lt B1.out)).trans B1.out)))
      have G2 : Hid (W2.heap[b]? = some (.cells cs 30)) := Lib.hid (by rw [hW2, hb]; exact row_same (heap_new _ _ _ rfl))
      have HB2 : Hid (Below w.heap.size w W2) := Lib.hid (by rw [hW2]; exact below_row ((HB.out.trans (hb2.mono HB.out.size)).alloc (by omega) _) _ _ (by omega))
      rw [← hW2, ← hb]
      clear hW2 hb hb2 B1 HB
      have tail : True := trivial
      cases d1 : decide (how < 1)
      all_goals
        cases d2 : decide (3 < how)
        all_goals
          first
            | (exfalso; rw [d1, d2] at hor; cases hor; done)
            | (go_wp2_with (first
                | (refine wpl_load 30 ?_; refine LoadGoal.of cs rfl G1.out (by kernel_rfl) (sig_sz H.out) rfl ?_)
                | (refine wpl_load 30 ?_; refine LoadGoal.of cs rfl G2.out (by kernel_rfl) (sig_sz H.out) rfl ?_)
                | (go_at_call 9; refine (awake26_any _ (tab_below HB2.out HT.out)).mono ?_; rintro e w' ⟨rfl, hb⟩))
               go_ret
               exact ⟨rfl, HB2.out.trans (hb.mono HB2.out.size)⟩)
    · have HCY : Hid (∀ W, Calls Tryd.prog 11 #[.agg cs, .int .i64 how, .int .u64 m] W fun e w' => e = .returned (.tuple #[.agg (changeA cs how m), .int .u64 (iat cs 0), .int .i64 0]) ∧ Below W.heap.size W w') := Lib.hid (fun W => sgChange cs H.out how m (by omega) (by omega) W)
      clear hh
      obtain ⟨A, hA⟩ : ∃ A, A = changeA cs how m := ⟨_, rfl⟩
      have HA := Lib.hid hA
      have FA : Hid (Fits sigK A.toList) := Lib.hid (by rw [hA]; exact change_fits H.out how m)
      have HCB : Hid (changeA A 3 (iat cs 0) = cs) := Lib.hid (by rw [hA]; exact change_back H.out C1.out how m)
      clear hA
      go_upto_region 6 with (first
        | (refine wpl_load 30 ?_; refine LoadGoal.of cs rfl B1.out (by kernel_rfl) (sig_sz H.out) rfl ?_)
        | (go_at_call 11; refine (HCY.out _).mono ?_; rintro e w2 ⟨rfl, hb2⟩; rw [← HA.out])
        | (refine wpl_store 30 ?_; refine StoreGoal.of A sigZ rfl rfl (heap_new _ _ _ rfl) FA.out sigZ_fits sig_size ?_))
      obtain ⟨W2, hW2⟩ : ∃ W2, W2 = (w2.alloc (.cells sigZ 30)).setRow w2.heap.size A := ⟨_, rfl⟩
      obtain ⟨b2, hb⟩ : ∃ b2, b2 = w2.heap.size := ⟨_, rfl⟩
      have hlt : w.heap.size < b2 := by rw [hb]; exact Nat.lt_of_lt_of_le (heap_lt B1.out) hb2.size
      have G1 : Hid (W2.heap[w.heap.size]? = some (.cells cs 30)) := Lib.hid (by rw [hW2]; exact (row_ne _ _ _ _ (by omega)).trans ((heap_old _ _ _ (by omega)).trans ((hb2.block _ (heap_lt B1.out)).trans B1.out)))
      have G2 : Hid (W2.heap[b2]? = some (.cells A 30)) := Lib.hid (by rw [hW2, hb]; exact row_same (heap_new _ _ _ rfl))
      have HB2 : Hid (Below w.heap.size w W2) := Lib.hid (by rw [hW2]; exact below_row ((HB.out.trans (hb2.mono HB.out.size)).alloc (by omega) _) _ _ (by omega))
      rw [← hW2, ← hb]
      clear hW2 hb hb2 B1 HB
      go_upto_region 7 with (first
        | (refine wpl_load 30 ?_; refine LoadGoal.of A rfl G2.out (by kernel_rfl) (sig_sz FA.out) rfl ?_)
        | (go_at_call 11; refine (sgChange A FA.out 3 (iat cs 0) (by omega) (by omega) _).mono ?_; rintro e w3 ⟨rfl, hb3⟩; rw [HCB.out])
        | (refine wpl_store 30 ?_; refine StoreGoal.of cs sigZ rfl rfl (heap_new _ _ _ rfl) H.out sigZ_fits sig_size ?_))
      obtain ⟨W3, hW3⟩ : ∃ W3, W3 = (w3.alloc (.cells sigZ 30)).setRow w3.heap.size cs := ⟨_, rfl⟩
      obtain ⟨b3, hb⟩ : ∃ b3, b3 = w3.heap.size := ⟨_, rfl⟩
      have hlt3 : w.heap.size < b3 := by rw [hb]; exact Nat.lt_of_lt_of_le (heap_lt G1.out) hb3.size
      have K1 : Hid (W3.heap[w.heap.size]? = some (.cells cs 30)) := Lib.hid (by rw [hW3]; exact (row_ne _ _ _ _ (by omega)).trans ((heap_old _ _ _ (by omega)).trans ((hb3.block _ (heap_lt G1.out)).trans G1.out)))
      have K2 : Hid (W3.heap[b3]? = some (.cells cs 30)) := Lib.hid (by rw [hW3, hb]; exact row_same (heap_new _ _ _ rfl))
      have HB3 : Hid (Below w.heap.size w W3) := Lib.hid (by rw [hW3]; exact below_row ((HB2.out.trans (hb3.mono HB2.out.size)).alloc (by omega) _) _ _ (by omega))
      rw [← hW3, ← hb]
      clear hW3 hb hb3 G1 G2 HB2
      obtain ⟨R, hR⟩ : ∃ R, R = raiseA cs k := ⟨_, rfl⟩
      have HR := Lib.hid hR
      have FR : Hid (Fits sigK R.toList) := Lib.hid (by rw [hR]; exact raise_fits H.out k)
      clear hR
      go_upto_region 9 with (first
        | (refine wpl_load 30 ?_; refine LoadGoal.of cs rfl K1.out (by kernel_rfl) (sig_sz H.out) rfl ?_)
        | (go_at_call 12; refine (sgRaise cs H.out k hk64 _).mono ?_; rintro e w4 ⟨rfl, hb4⟩; rw [← HR.out])
        | (refine wpl_store 30 ?_; refine StoreGoal.of R sigZ rfl rfl (heap_new _ _ _ rfl) FR.out sigZ_fits sig_size ?_))
      obtain ⟨W4, hW4⟩ : ∃ W4, W4 = (w4.alloc (.cells sigZ 30)).setRow w4.heap.size R := ⟨_, rfl⟩
      obtain ⟨b4, hb⟩ : ∃ b4, b4 = w4.heap.size := ⟨_, rfl⟩
      have hlt4 : b3 < b4 := by rw [hb]; exact Nat.lt_of_lt_of_le (heap_lt K2.out) hb4.size
      have L1 : Hid (W4.heap[w.heap.size]? = some (.cells cs 30)) := Lib.hid (by rw [hW4]; exact (row_ne _ _ _ _ (by omega)).trans ((heap_old _ _ _ (by omega)).trans ((hb4.block _ (heap_lt K1.out)).trans K1.out)))
      have L2 : Hid (W4.heap[b3]? = some (.cells cs 30)) := Lib.hid (by rw [hW4]; exact (row_ne _ _ _ _ (by omega)).trans ((heap_old _ _ _ (by omega)).trans ((hb4.block _ (heap_lt K2.out)).trans K2.out)))
      have L3 : Hid (W4.heap[b4]? = some (.cells R 30)) := Lib.hid (by rw [hW4, hb]; exact row_same (heap_new _ _ _ rfl))
      have HB4 : Hid (Below w.heap.size w W4) := Lib.hid (by rw [hW4]; exact below_row ((HB3.out.trans (hb4.mono HB3.out.size)).alloc (by omega) _) _ _ (by omega))
      rw [← hW4, ← hb]
      clear hW4 hb hb4 K1 K2 HB3
      have e0 := cell_at L1.out (H.out.iat (i := 0) rfl).1
      go_upto_region 11 with (first
        | (refine wpl_load 30 ?_; refine LoadGoal.of cs rfl L1.out (by kernel_rfl) (sig_sz H.out) rfl ?_)
        | (refine wpl_load 30 ?_; refine LoadGoal.of cs rfl L2.out (by kernel_rfl) (sig_sz H.out) rfl ?_))
      obtain ⟨v, hv⟩ : ∃ v, v = whatF cs k := ⟨_, rfl⟩
      have HV := Lib.hid hv
      clear hv q hg
      cases mb : (bits BinOp.and .u64 (iat cs 0 / 2 ^ k) 1 == 1)
      · cases w1 : (v == 1)
        · have MB := Lib.hid mb; have W1 := Lib.hid w1
          go_upto_region 13 with (first
            | (refine wpl_load 30 ?_; refine LoadGoal.of cs rfl L1.out (by kernel_rfl) (sig_sz H.out) rfl ?_)
            | (go_at_call 13; refine (sgWhat cs H.out k hk64 _).mono ?_; rintro e w5 ⟨rfl, hb5⟩; rw [← HV.out]; have e5 := ((bcell hb5).1 _ 0 (heap_lt L1.out)).trans e0; have HB5 : Hid (Below w.heap.size w w5) := Lib.hid (HB4.out.trans (hb5.mono HB4.out.size)))
            | (go_at_call 9; refine (awake26_any _ (tab_below HB5.out HT.out)).mono ?_; rintro e w' ⟨rfl, hb⟩))
          have hwm : whatF cs k ≠ 1 := by rw [← HV.out]; intro e; rw [e] at w1; simp at w1
          have hRw : R = cs.setIfInBounds 1 (.int .u64 (raiseW cs k)) := by
            rw [HR.out, raiseA, quietB]
            simp [hwm]
          have r0 := (H.out.iat (i := 0) rfl).2
          rw [wf_u64] at r0
          have hmk : (iat cs 0).toNat.testBit k = false := by
            refine maskBit (iat cs 0).toNat k (by omega) ?_
            rw [show (((iat cs 0).toNat : Nat) : Int) = iat cs 0 by omega]
            simpa using MB.out
          have HB0 : Hid ((canN R).testBit k = true) := Lib.hid (by rw [hRw]; exact raise_bit H.out k hk64 hmk)
          have M3 : Hid (w5.heap[b4]? = some (.cells R 30)) := Lib.hid ((hb5.block _ (heap_lt L3.out)).trans L3.out)
          clear hwm hRw r0 hmk e5 hb5 mb w1 e0
          have hwb : w.heap.size ≤ b4 := by omega
          clear L1 L2 L3 HB4 HCY HA FA HCB MB W1 HV
          go_wp2
          go_loopw [96] (fun j wr => ∃ (i : Nat) (V : Array Value), j = .int .i64 i ∧ Hid (Fits sigK V.toList) ∧ Hid (wr.heap[b4]? = some (.cells V 30)) ∧ Hid ((canN V).testBit k = true) ∧ Hid (popN (canN V) + i ≤ 64) ∧ Hid (Below w.heap.size w wr))
            (fun j _ => 65 - (intOf j).toNat)
          case atStart => exact ⟨0, R, rfl, FR, M3, HB0, Lib.hid (by have := pop_le (canN R); omega), HB5⟩
          case round =>
            obtain ⟨i, V, rfl, FV, MV, BV, PV, HBr⟩ := hrel
            have hi : i ≤ 63 := by have := pop_pos hk64 BV.out; have := PV.out; omega
            obtain ⟨x, hx⟩ : ∃ x, x = nextI V := ⟨_, rfl⟩
            have HX := Lib.hid hx
            clear hx
            cases xk : (x == (k : Int) + 1)
            · have hne : nextI V ≠ (k : Int) + 1 := by rw [← HX.out]; intro e; rw [e] at xk; simp at xk
              have HNK := Lib.hid (next_keeps FV.out k hk64 BV.out hne)
              clear hne
              go_wp2_with (first
                | (refine wpl_load 30 ?_; refine LoadGoal.of V rfl MV.out (by kernel_rfl) (sig_sz FV.out) rfl ?_)
                | (go_at_call 10; refine (sgNext V FV.out _ (tab_below HBr.out HT.out)).mono ?_; rintro e w6 ⟨rfl, hb6⟩; rw [← HX.out]; have MV6 : Hid (w6.heap[b4]? = some (.cells V 30)) := Lib.hid ((hb6.block _ (heap_lt MV.out)).trans MV.out); have HB6 : Hid (Below w.heap.size w w6) := Lib.hid (HBr.out.trans (hb6.mono HBr.out.size)))
                | (refine wpl_store 30 ?_; refine StoreGoal.of (nextA V) V rfl rfl MV6.out (next_fits FV.out) FV.out sig_size ?_))
              go_roundw
              case rel => exact ⟨i + 1, nextA V, by go_num, Lib.hid (next_fits FV.out), Lib.hid (row_same MV6.out), Lib.hid HNK.out.1, Lib.hid (by have := HNK.out.2; have := PV.out; omega), Lib.hid (below_row HB6.out _ _ hwb)⟩
              case measure => simp [intOf]; omega
            · go_wp2_with (first
                | (refine wpl_load 30 ?_; refine LoadGoal.of V rfl MV.out (by kernel_rfl) (sig_sz FV.out) rfl ?_)
                | (go_at_call 10; refine (sgNext V FV.out _ (tab_below HBr.out HT.out)).mono ?_; rintro e w6 ⟨rfl, hb6⟩; rw [← HX.out]; have MV6 : Hid (w6.heap[b4]? = some (.cells V 30)) := Lib.hid ((hb6.block _ (heap_lt MV.out)).trans MV.out); have HB6 : Hid (Below w.heap.size w w6) := Lib.hid (HBr.out.trans (hb6.mono HBr.out.size)))
                | (refine wpl_store 30 ?_; refine StoreGoal.of (nextA V) V rfl rfl MV6.out (next_fits FV.out) FV.out sig_size ?_)
                | (go_at_call 9; refine (awake26_any _ (tab_below (below_row HB6.out b4 (nextA V) hwb) HT.out)).mono ?_; rintro e w' ⟨rfl, hb⟩))
              go_ret
              exact ⟨rfl, (below_row HB6.out _ _ hwb).trans (hb.mono (by rw [row_len]; exact HB6.out.size))⟩
        · skip
          refine wp_region_lit ?_
          refine wpl_load 30 ?_
          refine LoadGoal.of cs rfl L1.out (by kernel_rfl) (sig_sz H.out) rfl ?_
          go_upto_region 12 with (go_at_call 13; refine (sgWhat cs H.out k hk64 _).mono ?_; rintro e w5 ⟨rfl, hb5⟩; rw [← HV.out]; have e5 := ((bcell hb5).1 _ 0 (heap_lt L1.out)).trans e0; have HB5 : Hid (Below w.heap.size w w5) := Lib.hid (HB4.out.trans (hb5.mono HB4.out.size)))
          go_wp2_with (go_at_call 9; refine (awake26_any _ (tab_below HB5.out HT.out)).mono ?_; rintro e w' ⟨rfl, hb⟩)
          go_ret
          exact ⟨rfl, HB5.out.trans (hb.mono HB5.out.size)⟩
      · cases w1 : (v == 1)
        all_goals
          refine wp_region_lit ?_
          refine wpl_load 30 ?_
          refine LoadGoal.of cs rfl L1.out (by kernel_rfl) (sig_sz H.out) rfl ?_
          go_upto_region 12 with (go_at_call 13; refine (sgWhat cs H.out k hk64 _).mono ?_; rintro e w5 ⟨rfl, hb5⟩; rw [← HV.out]; have e5 := ((bcell hb5).1 _ 0 (heap_lt L1.out)).trans e0; have HB5 : Hid (Below w.heap.size w w5) := Lib.hid (HB4.out.trans (hb5.mono HB4.out.size)))
          go_wp2_with (go_at_call 9; refine (awake26_any _ (tab_below HB5.out HT.out)).mono ?_; rintro e w' ⟨rfl, hb⟩)
          go_ret
          exact ⟨rfl, HB5.out.trans (hb.mono HB5.out.size)⟩
end Go.Proofs.YtofeamajoahjmaaDoor
