/-
  Names: the document's hashes .
-/
import Derived.Test.YtlifdfkconklfaaDoorFNmY
namespace Go.Proofs.YtlifdfkconklfaaDoor
open Go Go.RowKit
set_option linter.unusedVariables false
set_option linter.unusedSimpArgs false

set_option maxHeartbeats 2000000 in
set_option maxRecDepth 100000 in
theorem rhashes_any (l : List SymD) (hok : AllOk l) (hlen : l.length ≤ 1000) (ways : Nat) (hw : 1 ≤ ways) (hw2 : ways ≤ 64) (vp : Option Addr) (cap : Nat) (w : World) (h : SymsV w (.slice vp l.length cap) l) :
    Calls Tryd.prog 39 #[.slice vp l.length cap, .int .i64 ways] w fun e w' => e = .returned (.string (mkB (wordsL (hashN ways (waysOf ways l))))) ∧ Below w.heap.size w w' := by
  have HS := Lib.hid h; have OK := Lib.hid hok
  have hli : (l.length : Int) ≤ 1000 := by omega
  have hwi : (1 : Int) ≤ (ways : Int) := by omega
  have hwi2 : (ways : Int) ≤ 64 := by omega
  obtain ⟨n1, hn1⟩ : ∃ n1 : Nat, (l.length : Int) + 1 = (n1 : Int) := ⟨l.length + 1, rfl⟩
  have hm1 : ∀ W : World, _ := fun W => make_u32 W ways (by omega)
  have hm2 : ∀ W : World, _ := fun W => make_u32 W n1 (by omega)
  clear h hok
  go_enter Tryd.func39, Tryd.ntmps39
  go_upto_region 3 with fail
  obtain ⟨ws, hws⟩ : ∃ ws, ws = waysOf ways l := ⟨_, rfl⟩
  have hwl : ws.length = l.length := by rw [hws, waysOf_len]
  obtain ⟨W0, hW0⟩ : ∃ W0, W0 = (w.alloc (.cells (rowI .u32 (List.replicate ways 0)) 35)).alloc (.cells (rowI .u32 (List.replicate n1 0)) 35) := ⟨_, rfl⟩
  have R1 : Hid (W0.heap[w.heap.size]? = some (.cells (rowI .u32 (firstL ws ways l.length)) 35)) := Lib.hid (by rw [hW0, ← hwl, firstL_end]; exact (heap_old _ _ _ (by simp only [heap_len]; omega)).trans (heap_new _ _ _ rfl))
  have R2 : Hid (W0.heap[w.heap.size + 1]? = some (.cells (rowI .u32 (nextL ws l.length)) 35)) := Lib.hid (by rw [hW0, ← hwl, nextL_end, show n1 = ws.length + 1 by omega]; exact heap_new _ _ _ (by simp only [heap_len]))
  have HB0 : Hid (Below w.heap.size w W0) := Lib.hid (by rw [hW0]; exact ((Below.refl _ _).alloc (Nat.le_refl _) _).alloc (by simp only [heap_len]; omega) _)
  rw [← hW0]
  clear hW0 hm1 hm2
  have HWS := Lib.hid hws
  go_wp2
  go_loopw [7] (fun i wr => ∃ m : Nat, m ≤ l.length ∧ i = .int .i64 ((m : Int) - 1) ∧ Hid (wr.heap[w.heap.size]? = some (.cells (rowI .u32 (firstL ws ways m)) 35)) ∧ Hid (wr.heap[w.heap.size + 1]? = some (.cells (rowI .u32 (nextL ws m)) 35)) ∧ Hid (Below w.heap.size w wr)) (fun i _ => (intOf i + 1).toNat)
  case atStart => exact ⟨l.length, Nat.le_refl _, rfl, R1, R2, HB0⟩
  case round =>
    obtain ⟨m, hm, rfl, K1, K2, HB⟩ := hrel
    cases m with
    | zero =>
      have hneg : ((0 : Nat) : Int) - 1 = -1 := rfl
      rw [hneg]
      have HA : Hid (∀ w, Calls Tryd.prog 53 #[.int .u32 ways] w fun e w' => e = .returned (.string (mkB (be4 ways))) ∧ Below w.heap.size w w') := Lib.hid (fun w => rw_any ways (by omega) w)
      have HN1 : Hid (∀ w, Calls Tryd.prog 53 #[.int .u32 n1] w fun e w' => e = .returned (.string (mkB (be4 n1))) ∧ Below w.heap.size w w') := Lib.hid (fun w => rw_any n1 (by omega) w)
      have happ := mkB_append
      have hms := mkB_size
      have hb4 := be4_len
      go_wp2_with (first
        | (go_at_call 53; (with_reducible refine (HA.out _).mono ?_); rintro e w2 ⟨rfl, hb2⟩)
        | (go_at_call 53; (with_reducible refine (HN1.out _).mono ?_); rintro e w3 ⟨rfl, hb3⟩))
      have HB3 : Hid (Below w.heap.size w w3) := Lib.hid (HB.out.trans ((hb2.trans (hb3.mono hb2.size)).mono HB.out.size))
      have hsz : w.heap.size + 1 < wr.heap.size := heap_lt K2.out
      have M1 : Hid (w3.heap[w.heap.size]? = some (.cells (rowI .u32 (firstL ws ways 0)) 35)) := Lib.hid ((hb3.block _ (by have := hb2.size; omega)).trans ((hb2.block _ (by omega)).trans K1.out))
      have M2 : Hid (w3.heap[w.heap.size + 1]? = some (.cells (rowI .u32 (nextL ws 0)) 35)) := Lib.hid ((hb3.block _ (by have := hb2.size; omega)).trans ((hb2.block _ hsz).trans K2.out))
      clear hb2 hb3 K1 K2 HB HA HN1
      go_loopw [9, 10] (fun sv i wr => ∃ k : Nat, k ≤ ways ∧ i = .int .i64 (k : Int) ∧ sv = .string (mkB (wordsL ([ways, n1] ++ (firstL ws ways 0).take k))) ∧ Hid (Below w3.heap.size w3 wr)) (fun _ i _ => ways - (intOf i).toNat)
      case atStart => exact ⟨0, Nat.zero_le _, rfl, by simp [wordsL], Lib.hid (Below.refl _ _)⟩
      case round =>
        obtain ⟨k, hk, rfl, rfl, HB⟩ := hrel
        obtain ⟨L, hL⟩ : ∃ L, L = wordsL ([ways, n1] ++ (firstL ws ways 0).take k) := ⟨_, rfl⟩
        have hLl : (L.length : Int) ≤ 1000 := by rw [hL, wordsL_len, List.length_append, List.length_take, firstL_len]; simp; omega
        have HL := Lib.hid hL
        rw [← hL]
        clear hL
        by_cases hkw : k < ways
        · have hki : (k : Int) < (ways : Int) := by omega
          have hkf : k < (firstL ws ways 0).length := by rw [firstL_len]; exact hkw
          obtain ⟨x, hx⟩ : ∃ x, x = (firstL ws ways 0)[k] := ⟨_, rfl⟩
          have hxl : x < 4294967296 := by rw [hx, firstL_at]; exact nextF_lt _ _ _ (by omega)
          have hxi : (x : Int) ≤ 4294967295 := by omega
          have HX := Lib.hid hxl
          have hls : w.heap.size < w3.heap.size := heap_lt M1.out
          have d0 : wr.cell? ⟨w.heap.size, k, none⟩ = some (.int .u32 (x : Nat)) := (HB.out.cell (p := ⟨w.heap.size, k, none⟩) hls).trans (cell_at M1.out (by rw [rowI_at hkf, hx]))
          have hnext : Hid (L ++ be4 x = wordsL ([ways, n1] ++ (firstL ws ways 0).take (k + 1))) := Lib.hid (by rw [List.take_succ_eq_append_getElem hkf, ← List.append_assoc, wordsL_append, ← HL.out, hx]; simp [wordsL])
          clear hx
          go_wp2_with (go_at_call 53; (with_reducible refine (rw_any x HX.out _).mono ?_); rintro e w4 ⟨rfl, hb4'⟩; have HB4 : Hid (Below w3.heap.size w3 w4) := Lib.hid (below_then HB.out hb4'); clear hb4')
          go_roundw
          case rel => exact ⟨k + 1, by omega, by go_num, by rw [hnext.out], HB4⟩
          case measure => simp [intOf]; omega
        · obtain rfl : k = ways := by omega
          rw [List.take_of_length_le (by rw [firstL_len]; exact Nat.le_refl _)] at HL
          have HB5 : Hid (Below w.heap.size w wr) := Lib.hid (HB3.out.trans (HB.out.mono HB3.out.size))
          have hls : w.heap.size + 1 < w3.heap.size := heap_lt M2.out
          have M3 : Hid (wr.heap[w.heap.size + 1]? = some (.cells (rowI .u32 (nextL ws 0)) 35)) := Lib.hid ((HB.out.block _ hls).trans M2.out)
          have HLR := Lib.hid (heap_lt M3.out)
          clear hkw hk
          go_wp2
          go_loopw [9, 11] (fun sv i wq => ∃ q : Nat, q ≤ n1 ∧ i = .int .i64 (q : Int) ∧ sv = .string (mkB (L ++ wordsL ((nextL ws 0).take q))) ∧ Hid (Below wr.heap.size wr wq)) (fun _ i _ => n1 - (intOf i).toNat)
          case atStart => exact ⟨0, Nat.zero_le _, rfl, by simp [wordsL], Lib.hid (Below.refl _ _)⟩
          case round =>
            obtain ⟨q, hq, rfl, rfl, HQ⟩ := hrel
            obtain ⟨M, hM⟩ : ∃ M, M = L ++ wordsL ((nextL ws 0).take q) := ⟨_, rfl⟩
            have hMl : (M.length : Int) ≤ 6000 := by rw [hM, List.length_append, wordsL_len, List.length_take, nextL_len]; omega
            have HM := Lib.hid hM
            rw [← hM]
            clear hM
            by_cases hqn : q < n1
            · have hqi : (q : Int) < (n1 : Int) := by omega
              have hqf : q < (nextL ws 0).length := by rw [nextL_len]; omega
              obtain ⟨x, hx⟩ : ∃ x, x = (nextL ws 0)[q] := ⟨_, rfl⟩
              have hxl : x < 4294967296 := by
                rw [hx, nextL_at]
                split
                · exact nextF_lt _ _ _ (by omega)
                · omega
              have hxi : (x : Int) ≤ 4294967295 := by omega
              have HX := Lib.hid hxl
              have d0 : wr.cell? ⟨w.heap.size + 1, q, none⟩ = some (.int .u32 (x : Nat)) := (HQ.out.cell (p := ⟨w.heap.size + 1, q, none⟩) HLR.out).trans (cell_at M3.out (by rw [rowI_at hqf, hx]))
              have hnext : Hid (M ++ be4 x = L ++ wordsL ((nextL ws 0).take (q + 1))) := Lib.hid (by rw [List.take_succ_eq_append_getElem hqf, wordsL_append, ← List.append_assoc, ← HM.out, hx]; simp [wordsL])
              clear hx
              go_wp2_with (go_at_call 53; (with_reducible refine (rw_any x HX.out _).mono ?_); rintro e w4 ⟨rfl, hb4'⟩; have HB4 := Lib.hid (below_then HQ.out hb4'); clear hb4')
              go_roundw
              case rel => exact ⟨q + 1, by omega, by go_num, by rw [hnext.out], HB4⟩
              case measure => simp [intOf]; omega
            · have hq2 : q = n1 := by omega
              subst hq2
              have hres : Hid (M = wordsL (hashN k (waysOf k l))) := Lib.hid (by
                rw [HM.out, HL.out, List.take_of_length_le (by rw [nextL_len]; omega), hashN_is, ← HWS.out, ← wordsL_append, show ws.length + 1 = q by omega])
              clear hqn hq
              go_wp2
              go_ret
              exact ⟨by rw [← hres.out]; rfl, HB5.out.trans (HQ.out.mono HB5.out.size)⟩
    | succ m =>
      have hlt : m < l.length := by omega
      obtain ⟨b, off, hvp, hat⟩ : ∃ b off, vp = some ⟨b, off, none⟩ ∧ SymsAt w b off l := by
        rcases HS.out with ⟨hv, hl0⟩ | ⟨b, off, cap, hv, hat⟩
        · have h2 := congrArg List.length hl0; rw [List.length_nil] at h2; omega
        · cases hv; exact ⟨b, off, rfl, hat⟩
      subst hvp
      have hi : (((m + 1 : Nat) : Int) - 1) = (m : Int) := by omega
      have hmi : (m : Int) < (l.length : Int) := by omega
      rw [hi]
      obtain ⟨s, hs⟩ : ∃ s, s = l[m] := ⟨_, rfl⟩
      obtain ⟨h0, hh0⟩ : ∃ h0, h0 = hashL s.name := ⟨_, rfl⟩
      obtain ⟨c, hc⟩ : ∃ c, c = h0 % ways := ⟨_, rfl⟩
      have hci : (h0 : Int) % (ways : Int) = (c : Int) := by omega
      have hcw : c < ways := by rw [hc]; exact Nat.mod_lt _ (by omega)
      have hmw : m < ws.length := by omega
      have hwm : ws[m] = c := by subst hws; simp [waysOf, hc, hh0, hs]
      have d0 : wr.cell? ⟨b, off + m * 5, none⟩ = some (.string (mkB s.name)) := by
        have := (hat.below HB.out).at_ m hlt 0 (.string (mkB s.name)) (by rw [hs]; rfl)
        exact this
      have HH : Hid (∀ w, Calls Tryd.prog 15 #[.string (mkB s.name)] w fun e w' => e = .returned (.int .u32 (h0 : Nat)) ∧ w = w') := Lib.hid (fun w => by rw [hh0]; exact rhash_any s.name (by rw [hs]; exact (OK.out _ (List.getElem_mem _)).name) w)
      obtain ⟨v, hv⟩ : ∃ v, v = nextF ws c (m + 1) := ⟨_, rfl⟩
      have k1 : wr.cell? ⟨w.heap.size, c, none⟩ = some (.int .u32 (v : Nat)) := cell_at K1.out (by rw [rowI_at (by rw [firstL_len]; exact hcw), firstL_at, hv])
      have k2 : wr.cell? ⟨w.heap.size + 1, m + 1, none⟩ = some (.int .u32 ((nextL ws (m + 1))[m + 1]'(by rw [nextL_len]; omega) : Nat)) := cell_at K2.out (rowI_at (by rw [nextL_len]; omega))
      have f1 : wr.frozen? ⟨w.heap.size, c, none⟩ = false := free_at K1.out
      have f2 : wr.frozen? ⟨w.heap.size + 1, m + 1, none⟩ = false := free_at K2.out
      have hn1i : (m : Int) + 1 < (n1 : Int) := by omega
      have hwne : (ways : Int) ≠ 0 := by omega
      have hci2 : (c : Int) < (ways : Int) := by omega
      clear hs hh0 hc hws hi hat
      go_wp2_with (go_at_call 15; refine (HH.out _).mono ?_; rintro e w2 ⟨rfl, rfl⟩)
      have N1 := rowI_setCell (k := .u32) ((heap_set_ne wr (w.heap.size + 1) (m + 1) w.heap.size (.int .u32 (nextF ws c (m + 1) : Nat)) (by omega)).trans K1.out) c (m + 1)
      have N2 := (heap_set_ne (wr.setCell ⟨w.heap.size + 1, m + 1, none⟩ (.int .u32 (nextF ws c (m + 1) : Nat))) w.heap.size c (w.heap.size + 1) (.int .u32 ((m + 1 : Nat) : Int)) (by omega)).trans (rowI_setCell (k := .u32) K2.out (m + 1) (nextF ws c (m + 1)))
      rw [← hwm, firstL_step hmw] at N1
      rw [← hwm, nextL_step hmw] at N2
      rw [hwm] at N1 N2
      go_roundw
      case rel => exact ⟨m, by omega, rfl, Lib.hid N1, Lib.hid N2, Lib.hid ((HB.out.setCell (p := ⟨w.heap.size + 1, m + 1, none⟩) (by show w.heap.size ≤ w.heap.size + 1; omega) _).setCell (p := ⟨w.heap.size, c, none⟩) (Nat.le_refl _) _)⟩
      case measure => simp [intOf]
end Go.Proofs.YtlifdfkconklfaaDoor
