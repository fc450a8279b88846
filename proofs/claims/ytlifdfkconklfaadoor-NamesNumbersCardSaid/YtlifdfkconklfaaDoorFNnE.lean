/-
  Names: the program's Write.
-/
import Derived.Test.YtlifdfkconklfaaDoorFNnD
import Derived.Test.YtlifdfkconklfaaDoorFNnW
namespace Go.Proofs.YtlifdfkconklfaaDoor
open Go Go.RowKit
set_option linter.unusedVariables false
set_option linter.unusedSimpArgs false

set_option maxHeartbeats 4000000 in
set_option maxRecDepth 100000 in
theorem write_any (l : List SymD) (hok : AllOk l) (hlen : l.length ≤ 1000) (ways : Int) (hw1 : -9223372036854775808 ≤ ways) (hw2 : ways ≤ 9223372036854775807) (vp : Option Addr) (cap : Nat) (w : World) (h : SymsV w (.slice vp l.length cap) l) :
    Calls Tryd.prog 18 #[.slice vp l.length cap, .int .i64 ways] w fun e w' => e = .returned (.agg (tabW l ways)) ∧ Below w.heap.size w w' := by
  have HF : Hid (∀ W, Below w.heap.size w W → Calls Tryd.prog 16 #[.slice vp l.length cap] W fun e w' => e = .returned (.bool (fitL l)) ∧ Below W.heap.size W w') := Lib.hid (fun W hb => fit_any l hok (by omega) _ W (h.below hb))
  have OK := Lib.hid hok; have HS := Lib.hid h
  have hli : (l.length : Int) ≤ 1000 := by omega
  clear hok h hlen
  go_enter Tryd.func18, Tryd.ntmps18
  go_upto_region 1 with fail
  obtain ⟨W, hW⟩ : ∃ W, W = w.alloc (.cells (tabV [] [] []) 23) := ⟨_, rfl⟩
  have G0 : Hid (W.heap[w.heap.size]? = some (.cells (tabV [] [] []) 23)) := Lib.hid (by rw [hW]; exact heap_new _ _ _ rfl)
  have HB0 : Hid (Below w.heap.size w W ∧ w.heap.size < W.heap.size) := Lib.hid ⟨by rw [hW]; exact (Below.refl _ _).alloc (Nat.le_refl _) _, by rw [hW]; simp only [heap_len]; omega⟩
  change Code.wp _ _ _ _ (w.alloc (.cells (tabV [] [] []) 23))
  rw [← hW]
  clear hW
  have fin : ∀ (w1 : World), Below W.heap.size W w1 → w1.heap[w.heap.size]? = some (.cells (tabV [] [] []) 23) := fun w1 hb => (hb.block _ HB0.out.2).trans G0.out
  have FIN := Lib.hid fin
  clear fin
  cases hfl : fitL l
  · have HBAD : Hid (okW l ways = false) := Lib.hid (by rw [okW, hfl]; rfl)
    rw [hfl] at HF
    clear hfl
    go_wp2_with (go_at_call 16; refine (HF.out _ HB0.out.1).mono ?_; rintro e w1 ⟨rfl, hb1⟩; have g1 := FIN.out w1 hb1; have c0 := cell_at (o := 0) g1 rfl; have c1 := cell_at (o := 1) g1 rfl; have c2 := cell_at (o := 2) g1 rfl; have c3 := free_at (o := 0) g1; have c4 := free_at (o := 1) g1; have c5 := free_at (o := 2) g1; have G1 := Lib.hid g1; have HB1 := Lib.hid hb1; clear g1 hb1)
    refine bodyPost_ret (res_cell rfl (cs := tabV [] [] []) rfl (three_set G1.out) (by kernel_rfl) (tab_size _ _ _)) rfl ?_
    exact ⟨by rw [tabW_bad HBAD.out], below_three (HB0.out.1.trans (HB1.out.mono (Nat.le_of_lt HB0.out.2))) (Nat.le_refl _)⟩
  rw [hfl] at HF
  by_cases hn1 : ways < 1
  · have HBAD : Hid (okW l ways = false) := Lib.hid (by rw [okW, decide_eq_false (show ¬1 ≤ ways by omega)]; simp)
    clear hfl
    go_wp2_with (go_at_call 16; refine (HF.out _ HB0.out.1).mono ?_; rintro e w1 ⟨rfl, hb1⟩; have g1 := FIN.out w1 hb1; have c0 := cell_at (o := 0) g1 rfl; have c1 := cell_at (o := 1) g1 rfl; have c2 := cell_at (o := 2) g1 rfl; have c3 := free_at (o := 0) g1; have c4 := free_at (o := 1) g1; have c5 := free_at (o := 2) g1; have G1 := Lib.hid g1; have HB1 := Lib.hid hb1; clear g1 hb1)
    refine bodyPost_ret (res_cell rfl (cs := tabV [] [] []) rfl (three_set G1.out) (by kernel_rfl) (tab_size _ _ _)) rfl ?_
    exact ⟨by rw [tabW_bad HBAD.out], below_three (HB0.out.1.trans (HB1.out.mono (Nat.le_of_lt HB0.out.2))) (Nat.le_refl _)⟩
  by_cases hn2 : 64 < ways
  · have HBAD : Hid (okW l ways = false) := Lib.hid (by rw [okW, decide_eq_false (show ¬ways ≤ 64 by omega)]; simp)
    have hn1' : 1 ≤ ways := by omega
    clear hfl hn1
    go_wp2_with (go_at_call 16; refine (HF.out _ HB0.out.1).mono ?_; rintro e w1 ⟨rfl, hb1⟩; have g1 := FIN.out w1 hb1; have c0 := cell_at (o := 0) g1 rfl; have c1 := cell_at (o := 1) g1 rfl; have c2 := cell_at (o := 2) g1 rfl; have c3 := free_at (o := 0) g1; have c4 := free_at (o := 1) g1; have c5 := free_at (o := 2) g1; have G1 := Lib.hid g1; have HB1 := Lib.hid hb1; clear g1 hb1)
    refine bodyPost_ret (res_cell rfl (cs := tabV [] [] []) rfl (three_set G1.out) (by kernel_rfl) (tab_size _ _ _)) rfl ?_
    exact ⟨by rw [tabW_bad HBAD.out], below_three (HB0.out.1.trans (HB1.out.mono (Nat.le_of_lt HB0.out.2))) (Nat.le_refl _)⟩
  obtain ⟨n, rfl⟩ : ∃ n : Nat, ways = (n : Int) := ⟨ways.toNat, by omega⟩
  have hn1' : (1 : Int) ≤ (n : Int) := by omega
  have hn2' : (n : Int) ≤ 64 := by omega
  have HGOOD : Hid (okW l n = true) := Lib.hid (by rw [okW, hfl, decide_eq_true hn1', decide_eq_true hn2']; rfl)
  obtain ⟨hl200, hall⟩ := fitL_is hfl
  have HALL := Lib.hid hall
  have hl200' : (l.length : Int) ≤ 200 := by omega
  clear hfl hn1 hn2 hall hw1 hw2 hl200
  go_upto_region 3 with (go_at_call 16; refine (HF.out _ HB0.out.1).mono ?_; rintro e w1 ⟨rfl, hb1⟩; have g1 := FIN.out w1 hb1; have c0 := cell_at (o := 0) g1 rfl; have c1 := cell_at (o := 1) g1 rfl; have c2 := cell_at (o := 2) g1 rfl; have c3 := free_at (o := 0) g1; have c4 := free_at (o := 1) g1; have c5 := free_at (o := 2) g1; have G1 := Lib.hid g1; have HB1 := Lib.hid hb1; clear g1 hb1)
  clear c0 c1 c2 c3 c4 c5
  obtain ⟨n1, hn1⟩ : ∃ n1 : Nat, (l.length : Int) + 1 = (n1 : Int) := ⟨l.length + 1, rfl⟩
  have HN1 : Hid (n1 = l.length + 1 ∧ n1 ≤ 1000 ∧ n ≤ 1000) := Lib.hid (by omega)
  have HB2 : Hid (Below w.heap.size w w1) := Lib.hid (HB0.out.1.trans (HB1.out.mono (Nat.le_of_lt HB0.out.2)))
  (refine wp_region_fresh (by kernel_rfl) (by kernel_rfl) ?_)
  (refine lexF_seg 1 (by decide) (fun wq hwq => ?_); simp only [List.take_succ_cons, List.take_zero, List.drop_succ_cons, List.drop_zero]; have hsq := fun s : Grown wq => hwq.trans (s.below.mono hwq.size); (repeat (go_big_quiet_step ((fail)))); refine wpQuiet_nil ?_; clear hsq hwq wq; try simp only [Nat.reduceAdd])
  (refine lexF_fresh (fun g => .slice (some ⟨g, 0, none⟩) n n) (.cells (rowI .i64 (List.replicate n 0)) 3) (by rfl) (fun wq => (by have hmk := make_int wq n (by have := HN1.out; omega); simp only [execOp, Act.eval]; simp [hmk])) (fun ga hga nga => ?_); simp only [Act.put, List.getElem_toArray, List.getElem_cons_succ, List.getElem_cons_zero, List.setIfInBounds_toArray, List.set_cons_zero, List.set_cons_succ]; try simp only [Nat.reduceAdd])
  (refine lexF_seg 1 (by decide) (fun wq hwq => ?_); simp only [List.take_succ_cons, List.take_zero, List.drop_succ_cons, List.drop_zero]; have hsq := fun s : Grown wq => hwq.trans (s.below.mono hwq.size); (repeat (go_big_quiet_step ((fail)))); refine wpQuiet_nil ?_; clear hsq hwq wq; try simp only [Nat.reduceAdd])
  (refine lexF_fresh (fun g => .slice (some ⟨g, 0, none⟩) n n) (.cells (rowI .i64 (List.replicate n 0)) 3) (by rfl) (fun wq => (by have hmk := make_int wq n (by have := HN1.out; omega); simp only [execOp, Act.eval]; simp [hmk])) (fun gb hgb ngb => ?_); simp only [Act.put, List.getElem_toArray, List.getElem_cons_succ, List.getElem_cons_zero, List.setIfInBounds_toArray, List.set_cons_zero, List.set_cons_succ]; try simp only [Nat.reduceAdd])
  (refine lexF_seg 3 (by decide) (fun wq hwq => ?_); simp only [List.take_succ_cons, List.take_zero, List.drop_succ_cons, List.drop_zero]; have hsq := fun s : Grown wq => hwq.trans (s.below.mono hwq.size); (repeat (go_big_quiet_step ((fail)))); refine wpQuiet_nil ?_; clear hsq hwq wq; try simp only [Nat.reduceAdd])
  (refine lexF_fresh (fun g => .slice (some ⟨g, 0, none⟩) n1 n1) (.cells (rowI .i64 (List.replicate n1 0)) 3) (by rfl) (fun wq => (by have hmk := make_int wq n1 (by have := HN1.out; omega); simp only [execOp, Act.eval]; simp [hmk])) (fun gc hgc ngc => ?_); simp only [Act.put, List.getElem_toArray, List.getElem_cons_succ, List.getElem_cons_zero, List.setIfInBounds_toArray, List.set_cons_zero, List.set_cons_succ]; try simp only [Nat.reduceAdd])
  (refine lexF_seg 3 (by decide) (fun wq hwq => ?_); simp only [List.take_succ_cons, List.take_zero, List.drop_succ_cons, List.drop_zero]; have hsq := fun s : Grown wq => hwq.trans (s.below.mono hwq.size); (repeat (go_big_quiet_step ((fail)))); refine wpQuiet_nil ?_; clear hsq hwq wq; try simp only [Nat.reduceAdd])
  (refine lexF_nil ?_; intro wE hbE hfE)
  have ea := (hfE.1 1).1.1.2 rfl
  have eb := (hfE.1 3).1.2 rfl
  have ec := (hfE.1 7).2 rfl
  have nab : gb ≠ ga := fun e => ngb (.inr e)
  have nac : gc ≠ ga := fun e => ngc (.inl (.inr e))
  have nbc : gc ≠ gb := fun e => ngc (.inr e)
  have HE := Lib.hid ea; have HF2 := Lib.hid eb; have HG2 := Lib.hid ec; have HBE := Lib.hid hbE
  have HNE : Hid (gb ≠ ga ∧ gc ≠ ga ∧ gc ≠ gb ∧ w1.heap.size ≤ ga ∧ w1.heap.size ≤ gb ∧ w1.heap.size ≤ gc) := Lib.hid ⟨nab, nac, nbc, hga, hgb, hgc⟩
  clear ea eb ec nab nac nbc nga ngb ngc hfE hbE hga hgb hgc
  go_upto_region 5 with fail
  obtain ⟨W5, hW5⟩ : ∃ W5, W5 = (wE.alloc (.cells #[.pointer none, .slice none 0 0] 67)).alloc (.cells #[.pointer none, .slice none 0 0] 67) := ⟨_, rfl⟩
  have hb1 : BldAt 67 wE.heap.size none [] W5 := by rw [hW5]; exact (bldAt_new wE).below ((Below.refl _ _).alloc (Nat.le_refl _) _)
  have hb2 : BldAt 67 (wE.heap.size + 1) none [] W5 := by rw [hW5]; have := bldAt_new (T := 67) (wE.alloc (.cells #[.pointer none, .slice none 0 0] 67)); rwa [heap_len] at this
  have hB5 : Below wE.heap.size wE W5 := by rw [hW5]; exact ((Below.refl _ _).alloc (Nat.le_refl _) _).alloc (by simp only [heap_len]; omega) _
  have hz5 : W5.heap.size = wE.heap.size + 2 := by rw [hW5]; simp only [heap_len]
  rw [← hW5]
  clear hW5
  obtain ⟨m1, m2, m3, m4, m5, m6⟩ := HNE.out
  have la := heap_lt HE.out; have lb := heap_lt HF2.out; have lc := heap_lt HG2.out
  have l0 := HBE.out.size; have l1 := HB1.out.size; have l2 := HB0.out.2; have l3 := HB2.out.size
  obtain ⟨p, hp⟩ : ∃ p : WPl, p = ⟨w, wE.heap.size, wE.heap.size + 1, ga, gb, gc, w.heap.size, wE.heap.size + 2, ⟨Nat.le_refl _, by omega, by omega, by omega, by omega, by omega, by omega, by omega, by omega, by omega, by omega, by omega⟩,
    ⟨by omega, by omega, by omega, by omega, by omega, by omega, by omega, by omega, by omega, fun e => m1 e.symm, fun e => m2 e.symm, by omega, fun e => m3 e.symm, by omega, by omega⟩⟩ := ⟨_, rfl⟩
  have hI5 : WInv p [] [] (List.replicate n 0) (List.replicate n 0) (List.replicate n1 0) none none W5 := by
    subst hp
    exact ⟨hb1, hb2, (hB5.block _ la).trans HE.out, (hB5.block _ lb).trans HF2.out, (hB5.block _ lc).trans HG2.out, (hB5.block _ (show w.heap.size < _ by omega)).trans ((HBE.out.block _ (show w.heap.size < _ by omega)).trans G1.out), HB2.out.trans ((HBE.out.trans (hB5.mono l0)).mono l3),
      fun x h => (by cases h), fun x h => (by cases h), .inl rfl, by show wE.heap.size + 2 ≤ _; omega⟩
  have I5 := Lib.hid hI5
  have p1 : wE.heap.size = p.b1 := by rw [hp]
  have p2 : wE.heap.size + 1 = p.b2 := by rw [hp]
  have p3 : ga = p.g1 := by rw [hp]
  have p4 : gb = p.g2 := by rw [hp]
  have p5 : gc = p.g3 := by rw [hp]
  have PW : Hid (p.w0 = w ∧ p.rb = w.heap.size) := Lib.hid (by rw [hp]; exact ⟨rfl, rfl⟩)
  clear hp hI5 hb1 hb2 hB5 hz5 m1 m2 m3 m4 m5 m6 la lb lc l0 l1 l2 l3 HE HF2 HG2 HBE HNE
  subst p3 p4 p5
  rw [p2, p1]
  clear p1 p2
  have HREP : Hid (∀ w, Calls Tryd.prog 34 #[.string ⟨#[0]⟩, .int .i64 16] w fun e w' => e = .returned (.string (mkB zer16)) ∧ Below w.heap.size w w') := Lib.hid (fun w => Tryd.strings_Repeat ⟨#[0]⟩ 16 w (by decide) (by decide))
  go_upto_region 7 with (first
    | (go_at_call 34; refine (HREP.out _).mono ?_; rintro e wa ⟨rfl, hb⟩; have I6 := Lib.hid (I5.out.grow hb); clear hb)
    | (go_at_call 33; refine (wstr_at bldT_builder p.b1 none [] (mkB zer16) _ I6.out.bl1 (by rw [mkB_size]; decide)).mono ?_; rintro e wb ⟨rfl, ⟨r1, k1, k2⟩, k3⟩; have I7 := Lib.hid (I6.out.w1 k3 k1 k2); clear k1 k2 k3)
    | (go_at_call 35; refine (wbyte_at bldT_builder p.b2 none [] 0 _ I7.out.bl2 (by decide)).mono ?_; rintro e wd ⟨rfl, ⟨r2, k1, k2⟩, k3⟩; have I8 := Lib.hid (I7.out.w2 k3 k1 k2); clear k1 k2 k3))
  obtain ⟨ws, hws⟩ : ∃ ws, ws = waysOf n l := ⟨_, rfl⟩
  have hwl : ws.length = l.length := by rw [hws, waysOf_len]
  have HWS := Lib.hid hws
  have I9 : Hid (WInv p (zer16 ++ symsW [0] (l.take 0)) (strsW [0] (l.take 0)) (firstP ws n 0) (lastP ws n 0) (nextP ws 0) r1 r2 wd) := Lib.hid (by
    have h := I8.out
    rw [firstP_0, lastP_0, nextP_0, hwl, ← HN1.out.1, List.take_zero, symsW, strsW, List.append_nil]
    rw [mkB_list] at h
    exact h)
  have HWL := Lib.hid hwl
  clear I5 I6 I7 I8 hws hwl HREP
  go_wp2
  go_loopw [38] (fun i wr => ∃ k : Nat, k ≤ l.length ∧ i = .int .i64 (k : Int) ∧ ∃ r1 r2, Hid (WInv p (zer16 ++ symsW [0] (l.take k)) (strsW [0] (l.take k)) (firstP ws n k) (lastP ws n k) (nextP ws k) r1 r2 wr)) (fun i _ => l.length - (intOf i).toNat)
  case atStart => exact ⟨0, Nat.zero_le _, rfl, r1, r2, I9⟩
  case round =>
    clear I9
    clear r1 r2
    obtain ⟨k, hk, rfl, r1, r2, I⟩ := hrel
    by_cases hlt : k < l.length
    · have hki : (k : Int) < (l.length : Int) := by omega
      obtain ⟨b, off, hvp, hat⟩ : ∃ b off, vp = some ⟨b, off, none⟩ ∧ SymsAt w b off l := by
        rcases HS.out with ⟨hv, hl0⟩ | ⟨b, off, cap, hv, hat⟩
        · have h2 := congrArg List.length hl0; rw [List.length_nil] at h2; omega
        · cases hv; exact ⟨b, off, rfl, hat⟩
      subst hvp
      have hbw : Below w.heap.size w wr := by have := I.out.below; rwa [PW.out.1] at this
      have HAT := Lib.hid (hat.below hbw)
      obtain ⟨s, hs'⟩ : ∃ s, s = l[k] := ⟨_, rfl⟩
      have HR : Hid (wr.rangeAt b (off + k * 5) (symV s).toList) := Lib.hid (by rw [hs']; exact HAT.out.at_ k hlt)
      have hok : s.Ok := by rw [hs']; exact OK.out _ (List.getElem_mem _)
      have hfit : fitS s = true := by rw [hs']; exact List.all_eq_true.1 HALL.out _ (List.getElem_mem _)
      obtain ⟨f1, f2, f3, b0, b2, p0, p2⟩ := fitS_is hfit
      obtain ⟨A, hA⟩ : ∃ A, A = zer16 ++ symsW [0] (l.take k) := ⟨_, rfl⟩
      obtain ⟨B, hB⟩ : ∃ B, B = strsW [0] (l.take k) := ⟨_, rfl⟩
      have hAl : (A.length : Int) ≤ 100000 := by rw [hA, List.length_append, symsW_len, List.length_take, show zer16.length = 16 from rfl]; omega
      have hBl : (B.length : Int) ≤ 100000 := by have := strsW_len (l.take k) [0] (all_takeS HALL.out k); rw [← hB, List.length_take] at this; simp at this; omega
      obtain ⟨m, hm⟩ : ∃ m, m = B.length := ⟨_, rfl⟩
      have hmi : (m : Int) ≤ 100000 := by omega
      have HSY : Hid (∀ w, Calls Tryd.prog 24 #[.agg (symV s), .int .i64 m] w fun e w' => e = .returned (.string (mkB (symB s m))) ∧ Below w.heap.size w w') := Lib.hid (fun w => symbol_any s hok b0 b2 p0 p2 m (by omega) w)
      have hnA : Hid (zer16 ++ symsW [0] (l.take (k + 1)) = A ++ symB s m) := Lib.hid (by rw [List.take_succ_eq_append_getElem hlt, symsW_snoc, ← List.append_assoc, ← hA, ← hB, ← hm, ← hs'])
      have hnB : Hid (strsW [0] (l.take (k + 1)) = B ++ (s.name ++ [0])) := Lib.hid (by rw [List.take_succ_eq_append_getElem hlt, strsW_snoc, ← hB, ← hs'])
      obtain ⟨h0, hh0⟩ : ∃ h0, h0 = hashL s.name := ⟨_, rfl⟩
      obtain ⟨c, hc⟩ : ∃ c, c = h0 % n := ⟨_, rfl⟩
      have hci : (h0 : Int) % (n : Int) = (c : Int) := by omega
      have hcw : c < n := by rw [hc]; exact Nat.mod_lt _ (by omega)
      have hwk : k < ws.length := by rw [HWL.out]; exact hlt
      have hwc : ws[k] = c := by have := HWS.out; subst this; simp [waysOf, hc, hh0, hs']
      have HH : Hid (∀ w, Calls Tryd.prog 14 #[.string (mkB s.name)] w fun e w' => e = .returned (.int .u32 (h0 : Nat)) ∧ Below w.heap.size w w') := Lib.hid (fun w => by rw [hh0]; exact hash_any s.name hok.name w)
      rw [← hA, ← hB] at I
      have HMB : Hid (m = B.length) := Lib.hid hm
      have hnl : (s.name.length : Int) ≤ 31 := by omega
      have HABL : Hid (A.length ≤ 100000 ∧ B.length ≤ 100000 ∧ s.name.length ≤ 31) := Lib.hid (by omega)
      clear hA hB hm hs' hok hfit f1 f2 f3 b0 b2 p0 p2 hc hh0 hbw hat hAl hBl
      obtain ⟨nm, sv, sz, sb, sp⟩ := s
      have d0 : wr.cell? ⟨b, off + k * 5, none⟩ = some (.string (mkB nm)) := HR.out 0 _ rfl
      have d1 : wr.cell? ⟨b, off + k * 5 + 1, none⟩ = some (.int .u32 sv) := HR.out 1 _ rfl
      have d2 : wr.cell? ⟨b, off + k * 5 + 2, none⟩ = some (.int .u32 sz) := HR.out 2 _ rfl
      have d3 : wr.cell? ⟨b, off + k * 5 + 3, none⟩ = some (.int .i64 sb) := HR.out 3 _ rfl
      have d4 : wr.cell? ⟨b, off + k * 5 + 4, none⟩ = some (.int .i64 sp) := HR.out 4 _ rfl
      clear HR
      go_upto_region 10 with fail
      obtain ⟨W9, hW9⟩ : ∃ W9, W9 = wr.alloc (.cells (symV ⟨nm, sv, sz, sb, sp⟩) 39) := ⟨_, rfl⟩
      have R9 : Hid (W9.heap[wr.heap.size]? = some (.cells (symV ⟨nm, sv, sz, sb, sp⟩) 39)) := Lib.hid (by rw [hW9]; exact heap_new _ _ _ rfl)
      have I9 := Lib.hid (I.out.grow (w' := W9) (by rw [hW9]; exact (Below.refl _ _).alloc (Nat.le_refl _) _))
      have HRL : Hid ((∀ x, r1 = some x → x < wr.heap.size) ∧ (∀ x, r2 = some x → x < wr.heap.size) ∧ p.b1 < wr.heap.size ∧ p.b2 < wr.heap.size) := Lib.hid ⟨I.out.bl1.row, I.out.bl2.row, I.out.bl1.lt, I.out.bl2.lt⟩
      change Code.wp _ _ _ _ (wr.alloc (.cells (symV ⟨nm, sv, sz, sb, sp⟩) 39))
      rw [← hW9]
      clear hW9 d0 d1 d2 d3 d4
      have q0 : ∀ sg : Grown W9, sg.w.cell? ⟨wr.heap.size, 0, none⟩ = some (.string (mkB nm)) := Grown.cell R9.out rfl
      have q1 : ∀ sg : Grown W9, sg.w.cell? ⟨wr.heap.size, 1, none⟩ = some (.int .u32 sv) := Grown.cell R9.out rfl
      have q2 : ∀ sg : Grown W9, sg.w.cell? ⟨wr.heap.size, 2, none⟩ = some (.int .u32 sz) := Grown.cell R9.out rfl
      have q3 : ∀ sg : Grown W9, sg.w.cell? ⟨wr.heap.size, 3, none⟩ = some (.int .i64 sb) := Grown.cell R9.out rfl
      have q4 : ∀ sg : Grown W9, sg.w.cell? ⟨wr.heap.size, 4, none⟩ = some (.int .i64 sp) := Grown.cell R9.out rfl
      have HLC : Hid (∀ sg : Grown W9, Calls Tryd.prog 36 #[.pointer (some ⟨p.b2, 0, none⟩)] sg.w fun e w' => e = .returned (.int .i64 (m : Nat)) ∧ w' = sg.w) := Lib.hid (fun sg => by rw [HMB.out]; exact blen_at p.b2 r2 B _ (I9.out.grow sg.below).bl2)
      (refine wp_region_grown_tail 3 (by kernel_rfl) (by kernel_rfl) ?_; simp only [List.take_succ_cons, List.take_zero, List.drop_succ_cons, List.drop_zero]; (repeat (go_big_quiet_step (first | (go_at_call 36; exact Calls.grown_same (HLC.out _)) | (go_at_call 24; exact Calls.grown (HSY.out _))))); refine wpQuiet_nil ?_; intro _ hw'; obtain ⟨sG, hw''⟩ := hw'; subst hw'')
      have IG := Lib.hid (I9.out.grow sG.below)
      have RG := Lib.hid (sG.row R9.out)
      clear q0 q1 q2 q3 q4 HLC
      have HLS : Hid (A.length + (mkB (symB ⟨nm, sv, sz, sb, sp⟩ m)).size ≤ 140737488355328) := Lib.hid (by rw [mkB_size, symB_len]; have := HABL.out.1; omega)
      go_upto_region 11 with (go_at_call 33; refine (wstr_at bldT_builder p.b1 r1 A (mkB (symB ⟨nm, sv, sz, sb, sp⟩ m)) _ IG.out.bl1 HLS.out).mono ?_; rintro e wb ⟨rfl, ⟨r1', k1, k2⟩, k3⟩; have I10 := Lib.hid (IG.out.w1 k3 k1 k2); have RB : Hid (wb.heap[wr.heap.size]? = some (.cells (symV ⟨nm, sv, sz, sb, sp⟩) 39)) := Lib.hid ((k3.block _ (heap_lt RG.out) (by have := HRL.out.2.2.1; omega) (fun e => by have := HRL.out.1 _ e.symm; omega)).trans RG.out); clear k1 k2 k3)
      have d0 : wb.cell? ⟨wr.heap.size, 0, none⟩ = some (.string (mkB nm)) := cell_at RB.out rfl
      have HZ : Hid (mkB nm ++ ({ data := #[0] } : ByteArray) = mkB (nm ++ [0])) := Lib.hid (by rw [show ({ data := #[0] } : ByteArray) = mkB [0] from rfl, mkB_append])
      have HLT : Hid (B.length + (mkB (nm ++ [0])).size ≤ 140737488355328) := Lib.hid (by rw [mkB_size, List.length_append]; have := HABL.out; simp; omega)
      have hms := mkB_size nm
      go_upto_region 12 with (go_at_call 33; rw [HZ.out]; refine (wstr_at bldT_builder p.b2 r2 B (mkB (nm ++ [0])) _ I10.out.bl2 HLT.out).mono ?_; rintro e wd' ⟨rfl, ⟨r2', k1, k2⟩, k3⟩; have I11 := Lib.hid (I10.out.w2 k3 k1 k2); have RD : Hid (wd'.heap[wr.heap.size]? = some (.cells (symV ⟨nm, sv, sz, sb, sp⟩) 39)) := Lib.hid ((k3.block _ (heap_lt RB.out) (by have := HRL.out.2.2.2; omega) (fun e => by have := HRL.out.2.1 _ e.symm; omega)).trans RB.out); clear k1 k2 k3)
      clear d0 hms
      have d0 : wd'.cell? ⟨wr.heap.size, 0, none⟩ = some (.string (mkB nm)) := cell_at RD.out rfl
      have hnz : (n : Int) ≠ 0 := by omega
      go_upto_region 13 with (go_at_call 14; refine (HH.out _).mono ?_; rintro e we ⟨rfl, hb⟩; have I12 := Lib.hid (I11.out.grow hb); clear hb)
      clear d0
      obtain ⟨x, hx⟩ : ∃ x, x = nextF (ws.take k) c 0 := ⟨_, rfl⟩
      have I13 : Hid (WInv p (A ++ symB ⟨nm, sv, sz, sb, sp⟩ m) (B ++ (nm ++ [0])) (firstP ws n k) (lastP ws n k) (nextP ws k) r1' r2' we) := Lib.hid (by
        have := I12.out
        rw [mkB_list, mkB_list] at this
        exact this)
      have e1 : we.cell? ⟨p.g1, c, none⟩ = some (.int .i64 (x : Nat)) := cell_at I13.out.row1 (by rw [rowI_at (by rw [firstP_len]; exact hcw), firstP_at, hx])
      have hcn : (c : Int) < (n : Int) := by omega
      have f1 : we.frozen? ⟨p.g1, c, none⟩ = false := free_at I13.out.row1
      have f2 : we.frozen? ⟨p.g2, c, none⟩ = false := free_at I13.out.row2
      obtain ⟨y, hy⟩ : ∃ y, y = lastF (ws.take k) c := ⟨_, rfl⟩
      have e2 : we.cell? ⟨p.g2, c, none⟩ = some (.int .i64 (y : Nat)) := cell_at I13.out.row2 (by rw [rowI_at (by rw [lastP_len]; exact hcw), lastP_at, hy])
      have hk1 : ((k + 1 : Nat) : Int) = (k : Int) + 1 := rfl
      have fin : ∀ w', WInv p (A ++ symB ⟨nm, sv, sz, sb, sp⟩ m) (B ++ (nm ++ [0])) (firstP ws n (k + 1)) (lastP ws n (k + 1)) (nextP ws (k + 1)) r1' r2' w' → WInv p (zer16 ++ symsW [0] (l.take (k + 1))) (strsW [0] (l.take (k + 1))) (firstP ws n (k + 1)) (lastP ws n (k + 1)) (nextP ws (k + 1)) r1' r2' w' := fun w' h => by rw [hnA.out, hnB.out]; exact h
      have FIN2 := Lib.hid fin
      clear fin I11 I12
      obtain ⟨c1, c2, c3, c4, c5, c6, c7, c8, c9, c10, c11, c12, c13, c14, c15⟩ := p.ap
      by_cases hx0 : x = 0
      · have hnx : nextF (ws.take k) ws[k] 0 = 0 := by rw [hwc, ← hx, hx0]
        have H1 := Lib.hid (firstP_step (ways := n) hwk hnx)
        have H2 := Lib.hid (lastP_step (ways := n) hwk)
        have H3 := Lib.hid (nextP_keep hwk hnx)
        rw [hwc] at H1 H2
        have HI := I13.out.set1 c (k + 1)
        rw [H1.out] at HI
        have HJ := HI.set2 c (k + 1)
        rw [H2.out, ← H3.out, hk1] at HJ
        have HJ2 := Lib.hid HJ
        subst hx0
        clear hx hy HI HJ hnx H1 H2 H3 c1 c2 c3 c4 c5 c6 c7 c8 c9 c11 c12 c13 c14 c15 hk1
        go_wp2
        go_roundw
        case rel => exact ⟨k + 1, by omega, by go_num, r1', r2', Lib.hid (FIN2.out _ HJ2.out)⟩
        case measure => simp [intOf]; omega
      · have hnx : nextF (ws.take k) ws[k] 0 ≠ 0 := by rw [hwc, ← hx]; exact hx0
        have hxb : ((x : Int) == 0) = false := by rw [beq_eq_false_iff_ne]; omega
        have hyk : y ≤ k := by rw [hy]; have := (next_last c (ws.take k)).2.1; rw [List.length_take] at this; omega
        have hyn : y < n1 := by have := HN1.out.1; omega
        have hyi : (y : Int) < (n1 : Int) := by omega
        have H1 := Lib.hid (firstP_keep (ways := n) hwk hnx)
        have H2 := Lib.hid (lastP_step (ways := n) hwk)
        have H3 := Lib.hid (nextP_step hwk hnx)
        rw [hwc] at H2 H3
        rw [← hy] at H3
        obtain ⟨zz, e3⟩ : ∃ zz : Nat, we.cell? ⟨p.g3, y, none⟩ = some (.int .i64 zz) := ⟨_, cell_at I13.out.row3 (rowI_at (by rw [nextP_len, HWL.out]; omega))⟩
        have f3 : we.frozen? ⟨p.g3, y, none⟩ = false := free_at I13.out.row3
        have HI := I13.out.set3 y (k + 1)
        rw [H3.out] at HI
        have HJ := HI.set2 c (k + 1)
        rw [H2.out, ← H1.out, hk1] at HJ
        have HJ2 := Lib.hid HJ
        clear hx0 hx hy HI HJ hnx H1 H2 H3 c1 c2 c3 c4 c5 c6 c7 c8 c9 c10 c11 c12 c14 c15 hk1 hyk hyn f1
        go_wp2
        go_roundw
        case rel => exact ⟨k + 1, by omega, by go_num, r1', r2', Lib.hid (FIN2.out _ HJ2.out)⟩
        case measure => simp [intOf]; omega
    · obtain rfl : k = l.length := by omega
      rw [List.take_length, ← HWL.out, firstP_end, nextP_end] at I
      clear hlt hk
      have hA0 : zer16 ++ symsW [0] l ≠ [] := by simp [zer16, List.replicate]
      have hB0 : strsW [0] l ≠ [] := by obtain ⟨B, hB⟩ := strsW_ext [0] l; rw [hB]; simp
      have HA0 := Lib.hid hA0; have HB00 := Lib.hid hB0
      have HTN : Hid (67 ≠ 5) := Lib.hid (by decide)
      have hlA : ∀ x ∈ firstL ws n 0, x < 4294967296 := fun x hx => by simp only [firstL, List.mem_map] at hx; obtain ⟨k, _, rfl⟩ := hx; exact nextF_lt _ _ _ (by rw [HWL.out]; omega)
      have hlC : ∀ x ∈ nextL ws 0, x < 4294967296 := fun x hx => by
        simp only [nextL, List.mem_map] at hx
        obtain ⟨q, _, rfl⟩ := hx
        split
        · exact nextF_lt _ _ _ (by rw [HWL.out]; omega)
        · omega
      have hlB : ∀ x ∈ [n, n1], x < 4294967296 := fun x hx => by
        have := HN1.out
        rcases List.mem_cons.1 hx with rfl | hx
        · omega
        · rw [List.mem_singleton.1 hx]; omega
      have HWA : Hid (∀ w, WEnd p (firstL ws n 0) (nextL ws 0) w → Calls Tryd.prog 38 #[.slice (some ⟨p.g1, 0, none⟩) n n] w fun e w' => e = .returned (.string (mkB (wordsL (firstL ws n 0)))) ∧ Below w.heap.size w w') := Lib.hid (fun w h => words_row _ hlA n p.g1 n (firstL_len _ _ _) (by have := HN1.out; omega) w h.row1)
      have HWC : Hid (∀ w, WEnd p (firstL ws n 0) (nextL ws 0) w → Calls Tryd.prog 38 #[.slice (some ⟨p.g3, 0, none⟩) n1 n1] w fun e w' => e = .returned (.string (mkB (wordsL (nextL ws 0)))) ∧ Below w.heap.size w w') := Lib.hid (fun w h => words_row _ hlC n1 p.g3 n1 (by rw [nextL_len, HWL.out, HN1.out.1]) (by have := HN1.out; omega) w h.row3)
      have HWB : Hid (∀ (g : Nat) (w : World) (T : TypeId) (fr : Nat × Nat), w.heap[g]? = some (.cells #[.int .i64 n, .int .i64 n1] T fr) → Calls Tryd.prog 38 #[.slice (some ⟨g, 0, none⟩) 2 2] w fun e w' => e = .returned (.string (mkB (wordsL [n, n1]))) ∧ Below w.heap.size w w') := Lib.hid (fun g w T fr h => words_row [n, n1] hlB 2 g 2 rfl (by omega) w h)
      have hsA : ((wordsL (firstL ws n 0)).length : Int) ≤ 4000 := by rw [wordsL_len, firstL_len]; have := HN1.out; omega
      have hsC : ((wordsL (nextL ws 0)).length : Int) ≤ 4000 := by rw [wordsL_len, nextL_len, HWL.out]; have := HN1.out; omega
      have hsB : ((wordsL [n, n1]).length : Int) ≤ 4000 := by rw [wordsL_len]; simp
      clear hA0 hB0 hlA hlB hlC
      have hms := mkB_size
      have happ := mkB_append
      go_upto_region 18 with fail
      go_wp2_with (first
        | (go_at_call_of 37 (Value.pointer (some ⟨p.b1, 0, none⟩)); refine (bstr_at p.b1 r1 _ _ I.out.bl1 HA0.out HTN.out).mono ?_; rintro e wf ⟨rfl, ho⟩; have E1 := Lib.hid (I.out.end1 ho); clear ho)
        | (go_at_call_of 37 (Value.pointer (some ⟨p.b2, 0, none⟩)); refine (bstr_at p.b2 r2 _ _ E1.out.1 HB00.out HTN.out).mono ?_; rintro e wg ⟨rfl, ho⟩; have E2 := Lib.hid (E1.out.2.end2 I.out.m2 ho); clear ho)
        | (go_at_call_of 38 (Value.slice (some ⟨wg.heap.size, 0, none⟩) 2 2); refine (HWB.out _ _ _ _ (heap_new wg _ _ rfl)).mono ?_; rintro e wh ⟨rfl, hb⟩; have E3 := Lib.hid ((E2.out.grow ((Below.refl _ _).alloc (Nat.le_refl _) _)).grow hb); clear hb)
        | (go_at_call_of 38 (Value.slice (some ⟨p.g1, 0, none⟩) n n); refine (HWA.out _ E3.out).mono ?_; rintro e wi ⟨rfl, hb⟩; have E4 := Lib.hid (E3.out.grow hb); clear hb)
        | (go_at_call_of 38 (Value.slice (some ⟨p.g3, 0, none⟩) n1 n1); refine (HWC.out _ E4.out).mono ?_; rintro e wj ⟨rfl, hb⟩; have E5 := Lib.hid (E4.out.grow hb); clear hb; have g9 := E5.out.res; rw [PW.out.2] at g9; have c0 := cell_at (o := 0) g9 rfl; have c1 := cell_at (o := 1) g9 rfl; have c2 := cell_at (o := 2) g9 rfl; have c3 := free_at (o := 0) g9; have c4 := free_at (o := 1) g9; have c5 := free_at (o := 2) g9; have G9 := Lib.hid g9; clear g9))
      have hfin : wordsL [n, n1] ++ wordsL (firstL ws n 0) ++ wordsL (nextL ws 0) = wordsL (hashN n ws) := by rw [hashN_is, wordsL_append, wordsL_append, HN1.out.1, HWL.out]
      refine bodyPost_ret (res_cell rfl (cs := tabV (zer16 ++ symsW [0] l) (strsW [0] l) (wordsL [n, n1] ++ wordsL (firstL ws n 0) ++ wordsL (nextL ws 0))) rfl (three_set G9.out) (by kernel_rfl) (tab_size _ _ _)) rfl ?_
      have hbw : Below w.heap.size w wj := by have := E5.out.below; rwa [PW.out.1] at this
      exact ⟨by rw [tabW_good HGOOD.out, hfin, HWS.out], below_three hbw (Nat.le_refl _)⟩
end Go.Proofs.YtlifdfkconklfaaDoor
