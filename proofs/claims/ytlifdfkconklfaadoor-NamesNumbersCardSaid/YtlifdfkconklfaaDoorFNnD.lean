/-
  Names: the document's Write.
-/
import Derived.Test.YtlifdfkconklfaaDoorFNnC
import Derived.Test.YtlifdfkconklfaaDoorFGrA
namespace Go.Proofs.YtlifdfkconklfaaDoor
open Go Go.RowKit
set_option linter.unusedVariables false
set_option linter.unusedSimpArgs false

set_option maxHeartbeats 4000000 in
set_option maxRecDepth 100000 in
theorem rwrite_any (l : List SymD) (hok : AllOk l) (hlen : l.length ≤ 1000) (ways : Int) (hw1 : -9223372036854775808 ≤ ways) (hw2 : ways ≤ 9223372036854775807) (vp : Option Addr) (cap : Nat) (w : World) (h : SymsV w (.slice vp l.length cap) l) :
    Calls Tryd.prog 19 #[.slice vp l.length cap, .int .i64 ways] w fun e w' => e = .returned (.agg (tabW l ways)) ∧ Below w.heap.size w w' := by
  have HF : Hid (∀ W, Below w.heap.size w W → Calls Tryd.prog 17 #[.slice vp l.length cap] W fun e w' => e = .returned (.bool (fitL l)) ∧ Below W.heap.size W w') := Lib.hid (fun W hb => rfit_any l hok (by omega) _ W (h.below hb))
  have OK := Lib.hid hok; have HS := Lib.hid h
  have hli : (l.length : Int) ≤ 1000 := by omega
  clear hok h hlen
  go_enter Tryd.func19, Tryd.ntmps19
  go_upto_region 1 with fail
  obtain ⟨W, hW⟩ : ∃ W, W = w.alloc (.cells (tabV [] [] []) 23) := ⟨_, rfl⟩
  have G0 : Hid (W.heap[w.heap.size]? = some (.cells (tabV [] [] []) 23)) := Lib.hid (by rw [hW]; exact heap_new _ _ _ rfl)
  have HB0 : Hid (Below w.heap.size w W ∧ w.heap.size < W.heap.size) := Lib.hid ⟨by rw [hW]; exact (Below.refl _ _).alloc (Nat.le_refl _) _, by rw [hW]; simp only [heap_len]; omega⟩
  change Code.wp _ _ _ _ (w.alloc (.cells (tabV [] [] []) 23))
  rw [← hW]
  clear hW
  have fin : ∀ (w1 : World), Below W.heap.size W w1 → w1.heap[w.heap.size]? = some (.cells (tabV [] [] []) 23) := fun w1 hb => (hb.block _ HB0.out.2).trans G0.out
  have FIN := Lib.hid fin
  clear fin
  cases hfl : fitL l
  · have HBAD : Hid (okW l ways = false) := Lib.hid (by rw [okW, hfl]; rfl)
    rw [hfl] at HF
    clear hfl
    go_wp2_with (go_at_call 17; refine (HF.out _ HB0.out.1).mono ?_; rintro e w1 ⟨rfl, hb1⟩; have g1 := FIN.out w1 hb1; have c0 := cell_at (o := 0) g1 rfl; have c1 := cell_at (o := 1) g1 rfl; have c2 := cell_at (o := 2) g1 rfl; have c3 := free_at (o := 0) g1; have c4 := free_at (o := 1) g1; have c5 := free_at (o := 2) g1; have G1 := Lib.hid g1; have HB1 := Lib.hid hb1; clear g1 hb1)
    refine bodyPost_ret (res_cell rfl (cs := tabV [] [] []) rfl (three_set G1.out) (by kernel_rfl) (tab_size _ _ _)) rfl ?_
    exact ⟨by rw [tabW_bad HBAD.out], below_three (HB0.out.1.trans (HB1.out.mono (Nat.le_of_lt HB0.out.2))) (Nat.le_refl _)⟩
  rw [hfl] at HF
  by_cases hn1 : ways < 1
  · have HBAD : Hid (okW l ways = false) := Lib.hid (by rw [okW, decide_eq_false (show ¬1 ≤ ways by omega)]; simp)
    clear hfl
    go_wp2_with (go_at_call 17; refine (HF.out _ HB0.out.1).mono ?_; rintro e w1 ⟨rfl, hb1⟩; have g1 := FIN.out w1 hb1; have c0 := cell_at (o := 0) g1 rfl; have c1 := cell_at (o := 1) g1 rfl; have c2 := cell_at (o := 2) g1 rfl; have c3 := free_at (o := 0) g1; have c4 := free_at (o := 1) g1; have c5 := free_at (o := 2) g1; have G1 := Lib.hid g1; have HB1 := Lib.hid hb1; clear g1 hb1)
    refine bodyPost_ret (res_cell rfl (cs := tabV [] [] []) rfl (three_set G1.out) (by kernel_rfl) (tab_size _ _ _)) rfl ?_
    exact ⟨by rw [tabW_bad HBAD.out], below_three (HB0.out.1.trans (HB1.out.mono (Nat.le_of_lt HB0.out.2))) (Nat.le_refl _)⟩
  by_cases hn2 : 64 < ways
  · have HBAD : Hid (okW l ways = false) := Lib.hid (by rw [okW, decide_eq_false (show ¬ways ≤ 64 by omega)]; simp)
    have hn1' : 1 ≤ ways := by omega
    clear hfl hn1
    go_wp2_with (go_at_call 17; refine (HF.out _ HB0.out.1).mono ?_; rintro e w1 ⟨rfl, hb1⟩; have g1 := FIN.out w1 hb1; have c0 := cell_at (o := 0) g1 rfl; have c1 := cell_at (o := 1) g1 rfl; have c2 := cell_at (o := 2) g1 rfl; have c3 := free_at (o := 0) g1; have c4 := free_at (o := 1) g1; have c5 := free_at (o := 2) g1; have G1 := Lib.hid g1; have HB1 := Lib.hid hb1; clear g1 hb1)
    refine bodyPost_ret (res_cell rfl (cs := tabV [] [] []) rfl (three_set G1.out) (by kernel_rfl) (tab_size _ _ _)) rfl ?_
    exact ⟨by rw [tabW_bad HBAD.out], below_three (HB0.out.1.trans (HB1.out.mono (Nat.le_of_lt HB0.out.2))) (Nat.le_refl _)⟩
  obtain ⟨n, rfl⟩ : ∃ n : Nat, ways = (n : Int) := ⟨ways.toNat, by omega⟩
  have hn1' : (1 : Int) ≤ (n : Int) := by omega
  have hn2' : (n : Int) ≤ 64 := by omega
  have HGOOD : Hid (okW l n = true) := Lib.hid (by rw [okW, hfl, decide_eq_true hn1', decide_eq_true hn2']; rfl)
  obtain ⟨hl200, hall⟩ := fitL_is hfl
  have HALL := Lib.hid hall
  have HH : Hid (∀ W, Below w.heap.size w W → Calls Tryd.prog 39 #[.slice vp l.length cap, .int .i64 n] W fun e w' => e = .returned (.string (mkB (wordsL (hashN n (waysOf n l))))) ∧ Below W.heap.size W w') := Lib.hid (fun W hb => rhashes_any l OK.out (by omega) n (by omega) (by omega) vp cap W (HS.out.below hb))
  clear hfl hn1 hn2 hall hw1 hw2 hl200
  go_upto_region 3 with (go_at_call 17; refine (HF.out _ HB0.out.1).mono ?_; rintro e w1 ⟨rfl, hb1⟩; have g1 := FIN.out w1 hb1; have c0 := cell_at (o := 0) g1 rfl; have c1 := cell_at (o := 1) g1 rfl; have c2 := cell_at (o := 2) g1 rfl; have c3 := free_at (o := 0) g1; have c4 := free_at (o := 1) g1; have c5 := free_at (o := 2) g1; have G1 := Lib.hid g1; have HB1 := Lib.hid hb1; clear g1 hb1)
  obtain ⟨hs, hhs⟩ : ∃ hs, hs = wordsL (hashN n (waysOf n l)) := ⟨_, rfl⟩
  have HHS := Lib.hid hhs
  rw [← hhs] at HH
  clear hhs c0 c1 c2 c3 c4 c5
  have HB2 : Hid (Below w.heap.size w w1) := Lib.hid (HB0.out.1.trans (HB1.out.mono (Nat.le_of_lt HB0.out.2)))
  have HH2 : Hid (∀ W, Below w1.heap.size w1 W → Calls Tryd.prog 39 #[.slice vp l.length cap, .int .i64 n] W fun e w' => e = .returned (.string (mkB hs)) ∧ Below W.heap.size W w') := Lib.hid (fun W hb => HH.out W (HB2.out.trans (hb.mono HB2.out.size)))
  go_cut [5] (fun s5 wx => ∃ g : Nat, s5 = .pointer (some ⟨g, 0, none⟩) ∧ w1.heap.size ≤ g ∧ wx.heap[g]? = some (.cells (tabV zer16 [0] hs) 23) ∧ Below w1.heap.size w1 wx)
  case first =>
    (refine wp_region_fresh_tail 7 (by kernel_rfl) (by kernel_rfl) ?_; simp only [List.take_succ_cons, List.take_zero, List.drop_succ_cons, List.drop_zero])
    (refine lexF_fresh (fun g => .slice (some ⟨g, 0, none⟩) 16 16) (z16) (by rfl) (fun wq => by (simp only [execOp, Act.eval]; simp [make16])) (fun gq hgq hnq => ?_); simp only [Act.put, List.getElem_toArray, List.getElem_cons_succ, List.getElem_cons_zero, List.setIfInBounds_toArray, List.set_cons_zero, List.set_cons_succ]; try simp only [Nat.reduceAdd])
    (refine lexF_one (.string (mkB zer16)) (fun wq hwq hnq => (by (have hcv := conv16 wq gq ((hnq 0 (by kernel_rfl)).2 rfl); unfold Oper.quietAt; simp only [execOp, Act.eval]; simp [hcv, Oper.quietUpon]))) (by rfl) ?_; simp only [Act.put, List.getElem_toArray, List.getElem_cons_succ, List.getElem_cons_zero, List.setIfInBounds_toArray, List.set_cons_zero, List.set_cons_succ]; try simp only [Nat.reduceAdd])
    (refine lexF_seg 4 (by decide) (fun wq hwq => ?_); simp only [List.take_succ_cons, List.take_zero, List.drop_succ_cons, List.drop_zero]; have hsq := fun s : Grown wq => hwq.trans (s.below.mono hwq.size); (repeat (go_big_quiet_step ((go_at_call 39; exact Calls.grown (HH2.out _ (hsq _)))))); refine wpQuiet_nil ?_; clear hsq hwq wq; try simp only [Nat.reduceAdd])
    clear hgq hnq; (refine lexF_fresh (fun g => .pointer (some ⟨g, 0, none⟩)) (.cells (tabV [] [] []) 23) (by rfl) (fun wq => by (simp [execOp, go_sem]; rfl)) (fun gq hgq hnq => ?_); simp only [Act.put, List.getElem_toArray, List.getElem_cons_succ, List.getElem_cons_zero, List.setIfInBounds_toArray, List.set_cons_zero, List.set_cons_succ]; try simp only [Nat.reduceAdd])
    (refine lexF_nil ?_; intro wE hbE hfE)
    have h6 := (hfE.1 6).2 rfl
    have e0 := cell_at (o := 0) h6 rfl
    have e1 := cell_at (o := 1) h6 rfl
    have e2 := cell_at (o := 2) h6 rfl
    have e3 := free_at (o := 0) h6
    have e4 := free_at (o := 1) h6
    have e5 := free_at (o := 2) h6
    have H6 := Lib.hid h6; have HBE := Lib.hid hbE; have HGQ := Lib.hid hgq
    clear hfE h6 hbE hgq
    go_wp2
    go_meet
    exact ⟨gq, rfl, HGQ.out, three_set H6.out, below_three HBE.out HGQ.out⟩
  case rest =>
    obtain ⟨g, rfl, hg, hG, hB⟩ := hcut
    have HG := Lib.hid hg
    have Hz : Hid (Below w1.heap.size w1 wc) := Lib.hid hB
    have G3 := Lib.hid hG
    have HRES := FIN.out w1 HB1.out
    have GR := Lib.hid HRES
    have HWL : Hid (w.heap.size < w1.heap.size) := Lib.hid (Nat.lt_of_lt_of_le HB0.out.2 HB1.out.size)
    clear hg hG hB HRES
    have hl200' : (l.length : Int) ≤ 200 := by have := (fitL_is (l := l) (by have := HGOOD.out; simp only [okW, Bool.and_eq_true] at this; exact this.1)).1; omega
    go_wp2
    go_loopw [6] (fun i wr => ∃ k : Nat, k ≤ l.length ∧ i = .int .i64 (k : Int) ∧ Hid (wr.heap[g]? = some (.cells (tabV (zer16 ++ symsW [0] (l.take k)) (strsW [0] (l.take k)) hs) 23)) ∧ Hid (Below w1.heap.size w1 wr)) (fun i _ => l.length - (intOf i).toNat)
    case atStart => exact ⟨0, Nat.zero_le _, rfl, Lib.hid (by have := G3.out; simpa [symsW, strsW] using this), Hz⟩
    case round =>
      obtain ⟨k, hk, rfl, HK, HB⟩ := hrel
      by_cases hlt : k < l.length
      · have hki : (k : Int) < (l.length : Int) := by omega
        obtain ⟨b, off, hvp, hat⟩ : ∃ b off, vp = some ⟨b, off, none⟩ ∧ SymsAt w b off l := by
          rcases HS.out with ⟨hv, hl0⟩ | ⟨b, off, cap, hv, hat⟩
          · have h2 := congrArg List.length hl0; rw [List.length_nil] at h2; omega
          · cases hv; exact ⟨b, off, rfl, hat⟩
        subst hvp
        have HAT := Lib.hid (hat.below (HB2.out.trans (HB.out.mono HB2.out.size)))
        obtain ⟨s, hs'⟩ : ∃ s, s = l[k] := ⟨_, rfl⟩
        have HR : Hid (wr.rangeAt b (off + k * 5) (symV s).toList) := Lib.hid (by rw [hs']; exact HAT.out.at_ k hlt)
        have HQ : Hid (∀ sg : Grown wr, sg.w.rangeAt b (off + k * 5) (symV s).toList) := Lib.hid (fun sg j v hv => (sg.below.cell (p := ⟨b, off + k * 5 + j, none⟩) HAT.out.lt).trans (HR.out j v hv))
        have hok : s.Ok := by rw [hs']; exact OK.out _ (List.getElem_mem _)
        have hfit : fitS s = true := by rw [hs']; exact List.all_eq_true.1 HALL.out _ (List.getElem_mem _)
        obtain ⟨f1, f2, f3, b0, b2, p0, p2⟩ := fitS_is hfit
        obtain ⟨A, hA⟩ : ∃ A, A = zer16 ++ symsW [0] (l.take k) := ⟨_, rfl⟩
        obtain ⟨B, hB⟩ : ∃ B, B = strsW [0] (l.take k) := ⟨_, rfl⟩
        have hAl : (A.length : Int) ≤ 100000 := by rw [hA, List.length_append, symsW_len, List.length_take, show zer16.length = 16 from rfl]; omega
        have hBl : (B.length : Int) ≤ 100000 := by have := strsW_len (l.take k) [0] (all_takeS HALL.out k); rw [← hB, List.length_take] at this; simp at this; omega
        obtain ⟨m, hm⟩ : ∃ m, m = B.length := ⟨_, rfl⟩
        have hmi : (m : Int) ≤ 100000 := by omega
        have HSY : Hid (∀ w, Calls Tryd.prog 28 #[.agg (symV s), .int .u32 m] w fun e w' => e = .returned (.string (mkB (symB s m))) ∧ Below w.heap.size w w') := Lib.hid (fun w => rsymbol_any s hok b0 b2 p0 p2 m (by omega) w)
        have hnA : Hid (zer16 ++ symsW [0] (l.take (k + 1)) = A ++ symB s m) := Lib.hid (by rw [List.take_succ_eq_append_getElem hlt, symsW_snoc, ← List.append_assoc, ← hA, ← hB, ← hm, ← hs'])
        have hnB : Hid (strsW [0] (l.take (k + 1)) = B ++ (s.name ++ [0])) := Lib.hid (by rw [List.take_succ_eq_append_getElem hlt, strsW_snoc, ← hB, ← hs'])
        rw [← hA, ← hB] at HK
        have hmB : (B.length : Int) = (m : Int) := by rw [hm]
        have HSK := Lib.hid hs'
        clear hA hB hm hs' hok hfit f1 f3 b0 b2 p0 p2
        have happ := mkB_append
        have hms := mkB_size
        have hsb := symB_len
        have q0 : ∀ sg : Grown wr, sg.w.cell? ⟨g, 0, none⟩ = some (.string (mkB A)) := Grown.cell HK.out rfl
        have q1 : ∀ sg : Grown wr, sg.w.cell? ⟨g, 1, none⟩ = some (.string (mkB B)) := Grown.cell HK.out rfl
        have q2 : ∀ sg : Grown wr, sg.w.frozen? ⟨g, 0, none⟩ = false := fun sg => free_at (sg.row HK.out)
        go_upto_region 7 with fail
        (refine wp_region_grown_tail 12 (by kernel_rfl) (by kernel_rfl) ?_; simp only [List.take_succ_cons, List.take_zero, List.drop_succ_cons, List.drop_zero]; (repeat (first | go_big_quiet_step ((go_at_call 28; exact Calls.grown (HSY.out _))) | (go_big_quiet_want; refine quiet_load_mid 39 _ (symV s) rfl rfl (HQ.out) Tryd.underlying39 rfl (sym_size s) ?_; go_big_quiet_on; (try simp only [Act.put, List.getElem_toArray, List.getElem_cons_succ, List.getElem_cons_zero, List.setIfInBounds_toArray, List.set_cons_zero, List.set_cons_succ])))); refine wpQuiet_nil ?_; intro _ hw'; obtain ⟨sG, hw''⟩ := hw'; subst hw'')
        go_wp2
        obtain ⟨W8, hW8⟩ : ∃ W8, W8 = sG.w.setCell ⟨g, 0, none⟩ (.string (mkB (A ++ symB s m))) := ⟨_, rfl⟩
        have K8 : Hid (W8.heap[g]? = some (.cells (tabV (A ++ symB s m) B hs) 23)) := Lib.hid (by rw [hW8]; exact heap_set (sG.row HK.out))
        have HB8 : Hid (Below w1.heap.size w1 W8) := Lib.hid (by rw [hW8]; exact (below_then HB.out sG.below).setCell (p := ⟨g, 0, none⟩) HG.out _)
        have d8 : W8.cell? ⟨b, off + k * 5, none⟩ = some (.string (mkB s.name)) := by
          have := (hat.below (HB2.out.trans (HB8.out.mono HB2.out.size))).at_ k hlt 0 (.string (mkB s.name)) (by rw [← HSK.out]; rfl)
          exact this
        have hbl : b < W8.heap.size := (hat.below (HB2.out.trans (HB8.out.mono HB2.out.size))).lt
        rw [← hW8]
        clear hW8 q0 q1 q2 hsb
        have q0 : ∀ sg : Grown W8, sg.w.cell? ⟨b, off + k * 5, none⟩ = some (.string (mkB s.name)) := fun sg => (sg.below.cell (p := ⟨b, off + k * 5, none⟩) hbl).trans d8
        have q1 : ∀ sg : Grown W8, sg.w.cell? ⟨g, 1, none⟩ = some (.string (mkB B)) := Grown.cell K8.out rfl
        have q2 : ∀ sg : Grown W8, sg.w.frozen? ⟨g, 1, none⟩ = false := fun sg => free_at (sg.row K8.out)
        have hnl : (s.name.length : Int) ≤ 31 := by omega
        clear d8 hbl f2
        (refine wp_region_grown_tail 9 (by kernel_rfl) (by kernel_rfl) ?_; simp only [List.take_succ_cons, List.take_zero, List.drop_succ_cons, List.drop_zero]; (repeat (go_big_quiet_step (fail))); refine wpQuiet_nil ?_; intro _ hw'; obtain ⟨sG, hw''⟩ := hw'; subst hw'')
        go_wp2
        go_roundw
        case rel =>
          refine ⟨k + 1, by omega, by go_num, ?_, Lib.hid ((below_then HB8.out sG.below).setCell (p := ⟨g, 1, none⟩) HG.out _)⟩
          have hz : mkB (B ++ s.name) ++ ({ data := #[0] } : ByteArray) = mkB (B ++ (s.name ++ [0])) := by rw [show ({ data := #[0] } : ByteArray) = mkB [0] from rfl, mkB_append, List.append_assoc]
          rw [hnA.out, hnB.out, hz]
          exact Lib.hid (heap_set (sG.row K8.out))
        case measure => simp [intOf]; omega
      · obtain rfl : k = l.length := by omega
        rw [List.take_length] at HK
        have HTS := Lib.hid (tab_size (zer16 ++ symsW [0] l) (strsW [0] l) hs)
        clear hlt hk
        have g1 : wr.heap[w.heap.size]? = some (.cells (tabV [] [] []) 23) := (HB.out.block _ HWL.out).trans GR.out
        have c0 := cell_at (o := 0) g1 rfl; have c1 := cell_at (o := 1) g1 rfl; have c2 := cell_at (o := 2) g1 rfl; have c3 := free_at (o := 0) g1; have c4 := free_at (o := 1) g1; have c5 := free_at (o := 2) g1
        have G9 := Lib.hid g1; clear g1
        go_wp2_with (refine wpl_load 23 ?_; refine LoadGoal.of #[.string (mkB (zer16 ++ symsW [0] l)), .string (mkB (strsW [0] l)), .string (mkB hs)] rfl HK.out (by kernel_rfl) HTS.out rfl ?_)
        refine bodyPost_ret (res_cell rfl (cs := tabV (zer16 ++ symsW [0] l) (strsW [0] l) hs) rfl (three_set G9.out) (by kernel_rfl) HTS.out) rfl ?_
        exact ⟨by rw [tabW_good HGOOD.out, HHS.out], below_three (HB2.out.trans (HB.out.mono HB2.out.size)) (Nat.le_refl _)⟩
end Go.Proofs.YtlifdfkconklfaaDoor
