/-
  Names: the program's Read, of a table whose symbols' part can be.
-/
import Derived.Test.YtlifdfkconklfaaDoorFNmK
namespace Go.Proofs.YtlifdfkconklfaaDoor
open Go Go.RowKit
set_option linter.unusedVariables false
set_option linter.unusedSimpArgs false

theorem readG_step {strs r : List UInt8} (h : 16 ≤ r.length) : readG strs (r.length / 16) r = if chunkOk strs (r.take 16) then (readG strs ((r.drop 16).length / 16) (r.drop 16)).map (chunkSym strs (r.take 16) :: ·) else none := by
  have : r.length / 16 = (r.drop 16).length / 16 + 1 := by rw [List.length_drop]; omega
  rw [this, readG]
theorem cutA_has {l : List UInt8} (h : hasZ l = true) : cutA l = upto0 l := by
  unfold cutA; unfold hasZ at h; rw [h]; rfl
theorem chunk_cut {strs r : List UInt8} (h1 : wordAt r 0 < strs.length) (h2 : hasZ (strs.drop (wordAt r 0)) = true) :
    (⟨cutA (strs.drop (wordAt r 0)), wordAt r 4, wordAt r 8, (byteAt r 12 / 16 : Nat), (byteAt r 15 : Nat)⟩ : SymD) = chunkSym strs (r.take 16) := by
  rw [chunk_is, cutA_has h2, txtV, txtOk, h2, decide_eq_true h1]; rfl
theorem cutA_len (l : List UInt8) : (cutA l).length ≤ l.length := by
  unfold cutA
  split
  · exact upto0_le l
  · exact Nat.le_refl _
set_option maxHeartbeats 4000000 in
set_option maxRecDepth 100000 in
theorem read_good (syms strs hash : List UInt8) (hl : syms.length ≤ 1000000) (hst : strs.length ≤ 1000000) (hr : readOk syms = true) (w : World) :
    Calls Tryd.prog 9 #[.agg (tabV syms strs hash)] w (ReadPost (readF syms strs) w) := by
  have hsz := mkB_size syms
  have hF : Hid (readF syms strs = readG strs (syms.length / 16 - 1) (syms.drop 16)) := Lib.hid (by rw [readF, hr]; rfl)
  obtain ⟨c1, c2, c3, c4⟩ : syms.length % 16 = 0 ∧ 1 ≤ syms.length / 16 ∧ syms.length / 16 ≤ 201 ∧ (syms.take 16).all (· == 0) = true := by simpa only [readOk, Bool.and_eq_true, decide_eq_true_eq] using hr
  have hli : (syms.length : Int) ≤ 1000000 := by omega
  have hsti : (strs.length : Int) ≤ 1000000 := by omega
  have HST := Lib.hid hst
  have h15 : bits BinOp.and IntKind.i64 (syms.length : Int) 15 = 0 := by rw [and15 syms.length (by omega), c1]; rfl
  unfold tabV
  obtain ⟨n, hn⟩ : ∃ n : Nat, (syms.length : Int) / 16 = n := ⟨syms.length / 16, by omega⟩
  have c2i : (1 : Int) ≤ n := by omega
  have c3i : (n : Int) ≤ 201 := by omega
  have hx : (mkB syms).extract 0 16 = mkB (syms.take 16) := mkB_take syms 16
  have hx16 : (mkB syms).extract 16 syms.length = mkB (syms.drop 16) := by have := mkB_drop syms 16; rwa [mkB_size] at this
  have hL : Hid ((syms.take 16).length ≤ 140737488351232 ∧ syms.take 16 ≠ []) := Lib.hid ⟨by rw [List.length_take]; omega, fun e => by have h0 := congrArg List.length e; rw [List.length_take, List.length_nil] at h0; omega⟩
  have h16 : (16 : Int) ≤ (syms.length : Int) := by omega
  have HT : Hid (trimL (trimR (syms.take 16)) = []) := Lib.hid ((trim_nil (syms.take 16)).2 (fun c hc => by simpa using List.all_eq_true.1 c4 c hc))
  have e1 : (mkB []).toList = [] := bytes_toList []
  have L0 : Hid (syms.length = 16 * (syms.length / 16) ∧ 1 ≤ syms.length / 16 ∧ syms.length / 16 ≤ 201) := Lib.hid (by omega)
  obtain ⟨i0, hi, hz0, hz1, hz2⟩ := info_parts sym_info
  clear c1 c2 c3 c4 hr hl hst
  go_enter Tryd.func9, Tryd.ntmps9
  go_upto_region 1 with fail
  obtain ⟨W, hW⟩ : ∃ W, W = w.alloc (.cells #[.string (mkB syms), .string (mkB strs), .string (mkB hash)] 23) := ⟨_, rfl⟩
  have g0 : W.cell? ⟨w.heap.size, 0, none⟩ = some (.string (mkB syms)) := by rw [hW]; exact cell_at (heap_new _ _ _ rfl) rfl
  have g1 : W.cell? ⟨w.heap.size, 1, none⟩ = some (.string (mkB strs)) := by rw [hW]; exact cell_at (heap_new _ _ _ rfl) rfl
  have HWB : Hid (Below w.heap.size w W ∧ w.heap.size < W.heap.size) := Lib.hid ⟨by rw [hW]; exact (Below.refl _ _).alloc (Nat.le_refl _) _, by rw [hW]; simp only [heap_len]; omega⟩
  rw [← hW]
  clear hW
  go_wp2_with (go_at_call 20; refine (sTrim (syms.take 16) hL.out.1 hL.out.2 _).mono ?_; rintro e w1 ⟨rfl, hb⟩; rw [HT.out]; have HB : Hid (Below W.heap.size W w1) := Lib.hid hb; have hC0 : w1.cell? ⟨w.heap.size, 0, none⟩ = some (.string (mkB syms)) := (hb.cell (p := ⟨w.heap.size, 0, none⟩) HWB.out.2).trans g0; have hC1 : w1.cell? ⟨w.heap.size, 1, none⟩ = some (.string (mkB strs)) := (hb.cell (p := ⟨w.heap.size, 1, none⟩) HWB.out.2).trans g1; clear hb)
  have HC1 := Lib.hid hC1
  have HB0 : Hid (Below w.heap.size w w1) := Lib.hid (HWB.out.1.trans (HB.out.mono (by have := HWB.out.2; omega)))
  have HW : Hid (w.heap.size < w1.heap.size) := Lib.hid (by have := HB.out.size; have := HWB.out.2; omega)
  clear hC0 hC1 g0 g1 HB h15 hsz hx hx16 h16 hli c2i c3i hn
  go_loopw [5, 6] (fun v x wr => ∃ (done : List SymD) (r : List UInt8), x = .string (mkB r) ∧ Hid (wr.ownsRow w1.heap.size 39 5 v done.length (symVs done)) ∧ Hid (Below w1.heap.size w1 wr) ∧
    Hid (readG strs (syms.length / 16 - 1) (syms.drop 16) = (readG strs (r.length / 16) r).map (done ++ ·) ∧ r.length % 16 = 0 ∧ r.length + 16 * done.length ≤ 3200)) (fun _ x _ => strLen x)
  case atStart => exact ⟨[], syms.drop 16, rfl, Lib.hid (World.ownsRow_nil _ _ _ _), Lib.hid (Below.refl _ _), Lib.hid ⟨by
    have h0 := L0.out
    have : (syms.drop 16).length / 16 = syms.length / 16 - 1 := by rw [List.length_drop]; omega
    rw [this]; simp, by have h0 := L0.out; rw [List.length_drop]; omega, by have h0 := L0.out; rw [List.length_drop, List.length_nil]; omega⟩⟩
  case round =>
    obtain ⟨done, r, rfl, H1, H2, H3⟩ := hrel
    have hsz := mkB_size r
    have hC : wr.cell? ⟨w.heap.size, 1, none⟩ = some (.string (mkB strs)) := (H2.out.cell (p := ⟨w.heap.size, 1, none⟩) HW.out).trans HC1.out
    cases hr0 : r with
    | nil =>
      subst hr0
      have hres : Hid (readF syms strs = some done) := Lib.hid (by rw [hF.out, H3.out.1]; simp [readG])
      clear hsz
      go_wp2
      go_ret2
      exact ⟨_, by rw [hres.out]; rfl, by rw [hres.out]; exact symsV_of_own H1.out, HB0.out.trans (H2.out.mono (Nat.le_of_lt HW.out))⟩
    | cons b0 r0 =>
      have hne : Hid (r ≠ []) := Lib.hid (by rw [hr0]; simp)
      rw [← hr0]
      clear hr0
      have hl16 : 16 ≤ r.length := by
        have h1 := H3.out.2.1
        have h2 : r.length ≠ 0 := fun h => hne.out (List.length_eq_zero_iff.1 h)
        omega
      have hi16 : (16 : Int) ≤ (r.length : Int) := by omega
      have hi12 : (12 : Int) ≤ (r.length : Int) := by omega
      have hi8 : (8 : Int) ≤ (r.length : Int) := by omega
      have hi4 : (4 : Int) ≤ (r.length : Int) := by omega
      have hi13 : (12 : Int) < (r.length : Int) := by omega
      have hi15 : (15 : Int) < (r.length : Int) := by omega
      have hlenb : (r.length : Int) ≤ 3200 := by have := H3.out.2.2; omega
      have hdl : done.length ≤ 200 := by have := H3.out.2.2; omega
      have e2 : (mkB r).toList.isEmpty = false := by
        have h := hne.out
        rw [bytes_toList]
        cases r with
        | nil => exact absurd rfl h
        | cons a b => rfl
      have e3 : ((mkB r).toList == []) = false := by
        have h := hne.out
        rw [bytes_toList]
        cases r with
        | nil => exact absurd rfl h
        | cons a b => rfl
      have hx4 : (mkB r).extract 0 4 = mkB (r.take 4) := mkB_take r 4
      have hx8 : (mkB r).extract 4 8 = mkB ((r.drop 4).take 4) := mkB_extract r 4 8
      have hx12 : (mkB r).extract 8 12 = mkB ((r.drop 8).take 4) := mkB_extract r 8 12
      have hx16 : (mkB r).extract 0 16 = mkB (r.take 16) := mkB_take r 16
      have hxr : (mkB r).extract 16 r.length = mkB (r.drop 16) := by have := mkB_drop r 16; rwa [mkB_size] at this
      have B0 : Hid ((r.take 4).length ≤ 8 ∧ ((r.drop 4).take 4).length ≤ 8 ∧ ((r.drop 8).take 4).length ≤ 8) := Lib.hid (by simp only [List.length_take]; omega)
      obtain ⟨at0, hat⟩ : ∃ x, x = wordAt r 0 := ⟨_, rfl⟩
      have hat' : beN (r.take 4) = at0 := hat.symm
      have hatb : (at0 : Int) ≤ 4294967295 := by have := wordAt_lt r 0; omega
      have hszt := mkB_size strs
      have hw64 : IntKind.u64.wrap (strs.length : Int) = strs.length := IntWalk.u64_in _ (by omega)
      have hstep : Hid (readG strs (syms.length / 16 - 1) (syms.drop 16) = (if chunkOk strs (r.take 16) then (readG strs ((r.drop 16).length / 16) (r.drop 16)).map (chunkSym strs (r.take 16) :: ·) else none).map (done ++ ·)) := Lib.hid (by rw [H3.out.1, readG_step hl16])
      have HB16 := Lib.hid hl16
      have hat2 : Hid (at0 = wordAt r 0) := Lib.hid hat
      clear hat
      by_cases hge : strs.length ≤ at0
      · have hgei : (strs.length : Int) ≤ (at0 : Int) := by omega
        have hres : Hid (readF syms strs = none) := Lib.hid (by
          have h1 : chunkOk strs (r.take 16) = false := by
            rw [chunkOk, chunkFit, wordAt_take _ _ (by omega), ← hat2.out, txtOk, decide_eq_false (by omega), Bool.false_and, Bool.false_and, Bool.false_and]
          rw [hF.out, hstep.out, h1]; rfl)
        clear hge
        go_wp2_with (go_at_call 21; (with_reducible refine (be8_any (r.take 4) B0.out.1 _).mono ?_); rintro e w2 ⟨rfl, hb2⟩; rw [hat']; have HB2 := Lib.hid hb2; have hC2 : w2.cell? ⟨w.heap.size, 1, none⟩ = some (.string (mkB strs)) := (hb2.cell (p := ⟨w.heap.size, 1, none⟩) (Nat.lt_of_lt_of_le HW.out H2.out.size)).trans hC; clear hb2)
        go_ret2
        exact ⟨_, by rw [hres.out]; rfl, by rw [hres.out]; exact .inl ⟨rfl, rfl⟩, HB0.out.trans ((H2.out.trans (HB2.out.mono H2.out.size)).mono (Nat.le_of_lt HW.out))⟩
      · have hgei : (at0 : Int) < (strs.length : Int) := by omega
        have HGE : Hid (at0 < strs.length) := Lib.hid (by omega)
        have hxc : (mkB strs).extract at0 strs.length = mkB (strs.drop at0) := by have := mkB_drop strs at0; rwa [mkB_size] at this
        have hdl2 : Hid ((strs.drop at0).length ≤ 140737488351232) := Lib.hid (by have := HST.out; rw [List.length_drop]; omega)
        clear hge
        go_upto_region 12 with (first
          | (go_at_call 21; (with_reducible refine (be8_any (r.take 4) B0.out.1 _).mono ?_); rintro e w2 ⟨rfl, hb2⟩; rw [hat']; have HB2 := Lib.hid hb2; have hC2 : w2.cell? ⟨w.heap.size, 1, none⟩ = some (.string (mkB strs)) := (hb2.cell (p := ⟨w.heap.size, 1, none⟩) (Nat.lt_of_lt_of_le HW.out H2.out.size)).trans hC; clear hb2)
          | (go_at_call 22; (with_reducible refine (cut_any (strs.drop at0) hdl2.out _).mono ?_); rintro e w3 ⟨rfl, n3, rfl⟩))
        obtain ⟨W3, hW3⟩ : ∃ W3, W3 = w2.drewN n3 := ⟨_, rfl⟩
        have HB3 : Hid (Below w1.heap.size w1 W3) := Lib.hid (by rw [hW3]; exact below_drewN (H2.out.trans (HB2.out.mono H2.out.size)) n3)
        have HBr : Hid (Below wr.heap.size wr W3) := Lib.hid (by rw [hW3]; exact below_drewN HB2.out n3)
        rw [← hW3]
        clear hW3 hC2 hC HB2 hxc hgei hw64 hszt hx4 hat'
        obtain ⟨nm, hnm⟩ : ∃ nm, nm = cutA (strs.drop at0) := ⟨_, rfl⟩
        obtain ⟨ends, hends⟩ : ∃ ends, ends = hasZ (strs.drop at0) := ⟨_, rfl⟩
        obtain ⟨x, hxe⟩ : ∃ x, x = wordAt r 4 := ⟨_, rfl⟩
        obtain ⟨y, hye⟩ : ∃ x, x = wordAt r 8 := ⟨_, rfl⟩
        obtain ⟨bb, hbb⟩ : ∃ x, x = byteAt r 12 := ⟨_, rfl⟩
        obtain ⟨pp, hpp⟩ : ∃ x, x = byteAt r 15 := ⟨_, rfl⟩
        have hx' : beN ((r.drop 4).take 4) = x := hxe.symm
        have hy' : beN ((r.drop 8).take 4) = y := hye.symm
        have hxb : (x : Int) ≤ 4294967295 := by have := wordAt_lt r 4; omega
        have hyb : (y : Int) ≤ 4294967295 := by have := wordAt_lt r 8; omega
        have hbi : ∀ h, ((mkB r)[12]'h).toNat = bb := fun h => (byteAt_is r 12 (by omega) h).trans hbb.symm
        have hpi : ∀ h, ((mkB r)[15]'h).toNat = pp := fun h => (byteAt_is r 15 (by omega) h).trans hpp.symm
        have hbl : bb ≤ 255 := by rw [hbb]; exact byteAt_lt _ _
        have hpl : pp ≤ 255 := by rw [hpp]; exact byteAt_lt _ _
        have hwx : IntKind.u32.wrap (x : Int) = x := IntWalk.u32_in _ (by omega)
        have hwy : IntKind.u32.wrap (y : Int) = y := IntWalk.u32_in _ (by omega)
        have hwb : IntKind.i64.wrap ((bb : Int) / 16) = (bb : Int) / 16 := IntWalk.i64_in _ (by omega)
        have hwp : IntKind.i64.wrap (pp : Int) = pp := IntWalk.i64_in _ (by omega)
        have HX := Lib.hid hxe; have HY := Lib.hid hye; have HBB := Lib.hid hbb; have HPP := Lib.hid hpp; have HNM := Lib.hid hnm; have HEN := Lib.hid hends
        rw [← hnm, ← hends]
        clear hxe hye hbb hpp hnm hends
        go_cut [11] (fun s11 wx => ∃ g : Nat, s11 = .pointer (some ⟨g, 0, none⟩) ∧ W3.heap.size ≤ g ∧ wx.heap[g]? = some (.cells (symV ⟨nm, x, y, (bb : Int) / 16, (pp : Int)⟩) 39) ∧ Below W3.heap.size W3 wx)
        case first =>
          refine wp_region_any (by kernel_rfl) ?_
          change wpAny _ _ _ _ _ _ _ (World.drew _)
          have hW3b : Below W3.heap.size W3 W3.drew := (Below.refl _ _).drew
          (refine wpAny_take (i := 0) (v := ?_) rfl (by kernel_rfl) (by kernel_rfl) (by kernel_rfl) (fun _ _ _ h => h) (Or.inl ⟨by rfl, fun w => ?_⟩) ?_; rotate_left; · (go_simp <;> with_reducible rfl); (try simp only [Act.put, List.getElem_toArray, List.getElem_cons_succ, List.getElem_cons_zero, List.setIfInBounds_toArray, List.set_cons_zero, List.set_cons_succ]))
          (refine wpAny_take (i := 1) (v := ?_) rfl (by kernel_rfl) (by kernel_rfl) (by kernel_rfl) (fun _ _ _ h => h) (Or.inl ⟨by rfl, fun w => ?_⟩) ?_; rotate_left; · (go_simp <;> with_reducible rfl); (try simp only [Act.put, List.getElem_toArray, List.getElem_cons_succ, List.getElem_cons_zero, List.setIfInBounds_toArray, List.set_cons_zero, List.set_cons_succ]))
          (refine wpAny_take (i := 2) (v := ?_) rfl (by kernel_rfl) (by kernel_rfl) (by kernel_rfl) (fun _ _ _ h => h) (Or.inl ⟨by rfl, fun w => ?_⟩) ?_; rotate_left; · (go_simp <;> with_reducible rfl); (try simp only [Act.put, List.getElem_toArray, List.getElem_cons_succ, List.getElem_cons_zero, List.setIfInBounds_toArray, List.set_cons_zero, List.set_cons_succ]))
          (refine wpAny_take (i := 5) (v := ?_) rfl (by kernel_rfl) (by kernel_rfl) (by kernel_rfl) (fun _ _ _ h => h) (Or.inl ⟨by rfl, fun w => ?_⟩) ?_; rotate_left; · (go_simp <;> with_reducible rfl); (try simp only [Act.put, List.getElem_toArray, List.getElem_cons_succ, List.getElem_cons_zero, List.setIfInBounds_toArray, List.set_cons_zero, List.set_cons_succ]))
          (refine wpAny_take (i := 6) (v := ?_) rfl (by kernel_rfl) (by kernel_rfl) (by kernel_rfl) (fun _ _ _ h => h) (Or.inl ⟨by rfl, fun w => ?_⟩) ?_; rotate_left; · (go_simp <;> with_reducible rfl); (try simp only [Act.put, List.getElem_toArray, List.getElem_cons_succ, List.getElem_cons_zero, List.setIfInBounds_toArray, List.set_cons_zero, List.set_cons_succ]))
          (refine wpAny_take (i := 9) (v := ?_) rfl (by kernel_rfl) (by kernel_rfl) (by kernel_rfl) (fun _ _ _ h => h) (Or.inl ⟨by rfl, fun w => ?_⟩) ?_; rotate_left; · (go_simp <;> with_reducible rfl); (try simp only [Act.put, List.getElem_toArray, List.getElem_cons_succ, List.getElem_cons_zero, List.setIfInBounds_toArray, List.set_cons_zero, List.set_cons_succ]))
          (refine wpAny_take (i := 13) (v := ?_) rfl (by kernel_rfl) (by kernel_rfl) (by kernel_rfl) (fun _ _ _ h => h) (Or.inl ⟨by rfl, fun w => ?_⟩) ?_; rotate_left; · (go_simp <;> with_reducible rfl); (try simp only [Act.put, List.getElem_toArray, List.getElem_cons_succ, List.getElem_cons_zero, List.setIfInBounds_toArray, List.set_cons_zero, List.set_cons_succ]))
          (refine wpAny_take (i := 10) (v := ?_) rfl (by kernel_rfl) (by kernel_rfl) (by kernel_rfl) (fun _ _ _ h => h) (Or.inl ⟨by rfl, fun w => ?_⟩) ?_; rotate_left; · (go_simp <;> with_reducible rfl); (try simp only [Act.put, List.getElem_toArray, List.getElem_cons_succ, List.getElem_cons_zero, List.setIfInBounds_toArray, List.set_cons_zero, List.set_cons_succ]))
          (refine wpAny_take (i := 14) (v := ?_) rfl (by kernel_rfl) (by kernel_rfl) (by kernel_rfl) (fun _ _ _ h => h) (Or.inl ⟨by rfl, fun w => ?_⟩) ?_; rotate_left; · (go_simp <;> with_reducible rfl); (try simp only [Act.put, List.getElem_toArray, List.getElem_cons_succ, List.getElem_cons_zero, List.setIfInBounds_toArray, List.set_cons_zero, List.set_cons_succ]))
          (refine wpAny_take (i := 11) (v := ?_) rfl (by kernel_rfl) (by kernel_rfl) (by kernel_rfl) (fun _ _ _ h => h) (Or.inl ⟨by rfl, fun w => ?_⟩) ?_; rotate_left; · (go_simp <;> with_reducible rfl); (try simp only [Act.put, List.getElem_toArray, List.getElem_cons_succ, List.getElem_cons_zero, List.setIfInBounds_toArray, List.set_cons_zero, List.set_cons_succ]))
          (refine wpAny_take (i := 12) (v := ?_) rfl (by kernel_rfl) (by kernel_rfl) (by kernel_rfl) (fun _ _ _ h => h) (Or.inl ⟨by rfl, fun w => ?_⟩) ?_; rotate_left; · (go_simp <;> with_reducible rfl); (try simp only [Act.put, List.getElem_toArray, List.getElem_cons_succ, List.getElem_cons_zero, List.setIfInBounds_toArray, List.set_cons_zero, List.set_cons_succ]))
          (refine wpAny_take (i := 15) (v := ?_) rfl (by kernel_rfl) (by kernel_rfl) (by kernel_rfl) (fun _ _ _ h => h) (Or.inl ⟨by rfl, fun w => ?_⟩) ?_; rotate_left; · (go_simp <;> with_reducible rfl); (try simp only [Act.put, List.getElem_toArray, List.getElem_cons_succ, List.getElem_cons_zero, List.setIfInBounds_toArray, List.set_cons_zero, List.set_cons_succ]))
          refine wpAny_ready (rs := [3, 17]) (by kernel_rfl) (by simp) ?_
          refine AllReady.cons rfl (fun K hK => ?_) ?_
          · go_simp
            go_wp2_with (go_at_call_of 21 (Value.string (mkB ((r.drop 4).take 4))); (with_reducible refine (be8_any ((r.drop 4).take 4) B0.out.2.1 _).mono ?_); rintro e w4 ⟨rfl, hb1⟩; rw [hx']; have s1 : Below W3.heap.size W3 w4 := below_then (by (first | assumption | exact Below.trans (by assumption) (Below.mono (by assumption) (Below.size (by assumption))) | (refine below_realloc ?_ ?_ ?_; assumption; omega; omega) | ((repeat' (first | assumption | exact Below.refl _ _ | refine Below.drew ?_ | refine Below.setCell ?_ ?_ _ | refine Below.alloc ?_ ?_ _)); all_goals (first | assumption | omega | (simp only [heap_len]; done) | (simp only [heap_len]; omega) | (simp <;> omega))))) hb1; have z1 := s1.size; have q1 := (bcell hb1).1; have f1 := (bcell hb1).2; have y1 := hb1.size; (try simp at y1); (try have u1 : W3.heap.size < w4.heap.size := by omega))
            (refine wpAny_take (i := 4) (v := ?_) rfl (by kernel_rfl) (by kernel_rfl) (by kernel_rfl) (fun _ _ _ h => h) (Or.inl ⟨by rfl, fun w => ?_⟩) ?_; rotate_left; · (go_simp <;> with_reducible rfl); (try simp only [Act.put, List.getElem_toArray, List.getElem_cons_succ, List.getElem_cons_zero, List.setIfInBounds_toArray, List.set_cons_zero, List.set_cons_succ]))
            refine wpAny_ready (rs := [7, 17]) (by kernel_rfl) (by simp) ?_
            refine AllReady.cons rfl (fun K hK => ?_) ?_
            · go_simp
              go_wp2_with (go_at_call_of 21 (Value.string (mkB ((r.drop 8).take 4))); (with_reducible refine (be8_any ((r.drop 8).take 4) B0.out.2.2 _).mono ?_); rintro e w5 ⟨rfl, hb2⟩; rw [hy']; have s2 : Below W3.heap.size W3 w5 := below_then (by (first | assumption | exact Below.trans (by assumption) (Below.mono (by assumption) (Below.size (by assumption))) | (refine below_realloc ?_ ?_ ?_; assumption; omega; omega) | ((repeat' (first | assumption | exact Below.refl _ _ | refine Below.drew ?_ | refine Below.setCell ?_ ?_ _ | refine Below.alloc ?_ ?_ _)); all_goals (first | assumption | omega | (simp only [heap_len]; done) | (simp only [heap_len]; omega) | (simp <;> omega))))) hb2; have z2 := s2.size; have q2 := (bcell hb2).1; have f2 := (bcell hb2).2; have y2 := hb2.size; (try simp at y2); (try have u2 : W3.heap.size < w5.heap.size := by omega))
              (refine wpAny_take (i := 8) (v := ?_) rfl (by kernel_rfl) (by kernel_rfl) (by kernel_rfl) (fun _ _ _ h => h) (Or.inl ⟨by rfl, fun w => ?_⟩) ?_; rotate_left; · (go_simp <;> with_reducible rfl); (try simp only [Act.put, List.getElem_toArray, List.getElem_cons_succ, List.getElem_cons_zero, List.setIfInBounds_toArray, List.set_cons_zero, List.set_cons_succ]))
              (refine wpAny_take (i := 16) (v := ?_) rfl (by kernel_rfl) (by kernel_rfl) (by kernel_rfl) (fun _ _ _ h => h) (Or.inl ⟨by rfl, fun w => ?_⟩) ?_; rotate_left; · (go_simp <;> with_reducible rfl); (try simp only [Act.put, List.getElem_toArray, List.getElem_cons_succ, List.getElem_cons_zero, List.setIfInBounds_toArray, List.set_cons_zero, List.set_cons_succ]))
              refine wpAny_ready (rs := [17]) (by kernel_rfl) (by simp) ?_
              refine AllReady.cons rfl (fun K hK => ?_) AllReady.nil
              · go_simp
                refine hK _ _ ?_
                clear hK K
                (refine wpAny_ready (rs := [18]) (by kernel_rfl) (by simp) ?_; refine AllReady.cons rfl (fun K hK => ?_) AllReady.nil; go_simp; refine hK _ _ ?_; clear hK K)
                refine wpAny_done (by kernel_rfl) ?_ _
                go_wp2
                go_meet
                refine ⟨_, rfl, ?_, ?_, ?_⟩
                · first | exact Nat.le_refl _ | omega
                · exact heap_new _ _ _ rfl
                · repeat' (first | with_reducible exact s2 | with_reducible refine Below.alloc s2 ?_ _ | with_reducible refine Below.setCell ?_ ?_ _ | exact Nat.le_refl _ | (show _ ≤ _; omega))
            refine AllReady.cons rfl (fun K hK => ?_) AllReady.nil
            · go_simp
              refine hK _ _ ?_
              clear hK K
              refine wpAny_ready (rs := [7]) (by kernel_rfl) (by simp) ?_
              refine AllReady.cons rfl (fun K hK => ?_) AllReady.nil
              · go_simp
                go_wp2_with (go_at_call_of 21 (Value.string (mkB ((r.drop 8).take 4))); (with_reducible refine (be8_any ((r.drop 8).take 4) B0.out.2.2 _).mono ?_); rintro e w5 ⟨rfl, hb2⟩; rw [hy']; have s2 : Below W3.heap.size W3 w5 := below_then (by (first | assumption | exact Below.trans (by assumption) (Below.mono (by assumption) (Below.size (by assumption))) | (refine below_realloc ?_ ?_ ?_; assumption; omega; omega) | ((repeat' (first | assumption | exact Below.refl _ _ | refine Below.drew ?_ | refine Below.setCell ?_ ?_ _ | refine Below.alloc ?_ ?_ _)); all_goals (first | assumption | omega | (simp only [heap_len]; done) | (simp only [heap_len]; omega) | (simp <;> omega))))) hb2; have z2 := s2.size; have q2 := (bcell hb2).1; have f2 := (bcell hb2).2; have y2 := hb2.size; (try simp at y2); (try have u2 : W3.heap.size < w5.heap.size := by omega))
                (refine wpAny_take (i := 8) (v := ?_) rfl (by kernel_rfl) (by kernel_rfl) (by kernel_rfl) (fun _ _ _ h => h) (Or.inl ⟨by rfl, fun w => ?_⟩) ?_; rotate_left; · (go_simp <;> with_reducible rfl); (try simp only [Act.put, List.getElem_toArray, List.getElem_cons_succ, List.getElem_cons_zero, List.setIfInBounds_toArray, List.set_cons_zero, List.set_cons_succ]))
                (refine wpAny_take (i := 16) (v := ?_) rfl (by kernel_rfl) (by kernel_rfl) (by kernel_rfl) (fun _ _ _ h => h) (Or.inl ⟨by rfl, fun w => ?_⟩) ?_; rotate_left; · (go_simp <;> with_reducible rfl); (try simp only [Act.put, List.getElem_toArray, List.getElem_cons_succ, List.getElem_cons_zero, List.setIfInBounds_toArray, List.set_cons_zero, List.set_cons_succ]))
                (refine wpAny_ready (rs := [18]) (by kernel_rfl) (by simp) ?_; refine AllReady.cons rfl (fun K hK => ?_) AllReady.nil; go_simp; refine hK _ _ ?_; clear hK K)
                refine wpAny_done (by kernel_rfl) ?_ _
                go_wp2
                go_meet
                refine ⟨_, rfl, ?_, ?_, ?_⟩
                · first | exact Nat.le_refl _ | omega
                · (refine five_set (x := #[]) (a := .string ByteArray.empty) (b := .int .u32 0) (c := .int .u32 0) (d := .int .i64 0) (e := .int .i64 0) ?_; rw [hb2.block _ (by (first | omega | (simp only [heap_len]; omega) | exact Nat.lt_of_lt_of_eq (Nat.lt_succ_self _) (heap_len _ _).symm))]; exact heap_new _ _ _ rfl)
                · repeat' (first | with_reducible exact s2 | with_reducible refine Below.alloc s2 ?_ _ | with_reducible refine Below.setCell ?_ ?_ _ | exact Nat.le_refl _ | (show _ ≤ _; omega))
          refine AllReady.cons rfl (fun K hK => ?_) AllReady.nil
          · go_simp
            refine hK _ _ ?_
            clear hK K
            refine wpAny_ready (rs := [3]) (by kernel_rfl) (by simp) ?_
            refine AllReady.cons rfl (fun K hK => ?_) AllReady.nil
            · go_simp
              go_wp2_with (go_at_call_of 21 (Value.string (mkB ((r.drop 4).take 4))); (with_reducible refine (be8_any ((r.drop 4).take 4) B0.out.2.1 _).mono ?_); rintro e w4 ⟨rfl, hb1⟩; rw [hx']; have s1 : Below W3.heap.size W3 w4 := below_then (by (first | assumption | exact Below.trans (by assumption) (Below.mono (by assumption) (Below.size (by assumption))) | (refine below_realloc ?_ ?_ ?_; assumption; omega; omega) | ((repeat' (first | assumption | exact Below.refl _ _ | refine Below.drew ?_ | refine Below.setCell ?_ ?_ _ | refine Below.alloc ?_ ?_ _)); all_goals (first | assumption | omega | (simp only [heap_len]; done) | (simp only [heap_len]; omega) | (simp <;> omega))))) hb1; have z1 := s1.size; have q1 := (bcell hb1).1; have f1 := (bcell hb1).2; have y1 := hb1.size; (try simp at y1); (try have u1 : W3.heap.size < w4.heap.size := by omega))
              (refine wpAny_take (i := 4) (v := ?_) rfl (by kernel_rfl) (by kernel_rfl) (by kernel_rfl) (fun _ _ _ h => h) (Or.inl ⟨by rfl, fun w => ?_⟩) ?_; rotate_left; · (go_simp <;> with_reducible rfl); (try simp only [Act.put, List.getElem_toArray, List.getElem_cons_succ, List.getElem_cons_zero, List.setIfInBounds_toArray, List.set_cons_zero, List.set_cons_succ]))
              refine wpAny_ready (rs := [7]) (by kernel_rfl) (by simp) ?_
              refine AllReady.cons rfl (fun K hK => ?_) AllReady.nil
              · go_simp
                go_wp2_with (go_at_call_of 21 (Value.string (mkB ((r.drop 8).take 4))); (with_reducible refine (be8_any ((r.drop 8).take 4) B0.out.2.2 _).mono ?_); rintro e w5 ⟨rfl, hb2⟩; rw [hy']; have s2 : Below W3.heap.size W3 w5 := below_then (by (first | assumption | exact Below.trans (by assumption) (Below.mono (by assumption) (Below.size (by assumption))) | (refine below_realloc ?_ ?_ ?_; assumption; omega; omega) | ((repeat' (first | assumption | exact Below.refl _ _ | refine Below.drew ?_ | refine Below.setCell ?_ ?_ _ | refine Below.alloc ?_ ?_ _)); all_goals (first | assumption | omega | (simp only [heap_len]; done) | (simp only [heap_len]; omega) | (simp <;> omega))))) hb2; have z2 := s2.size; have q2 := (bcell hb2).1; have f2 := (bcell hb2).2; have y2 := hb2.size; (try simp at y2); (try have u2 : W3.heap.size < w5.heap.size := by omega))
                (refine wpAny_take (i := 8) (v := ?_) rfl (by kernel_rfl) (by kernel_rfl) (by kernel_rfl) (fun _ _ _ h => h) (Or.inl ⟨by rfl, fun w => ?_⟩) ?_; rotate_left; · (go_simp <;> with_reducible rfl); (try simp only [Act.put, List.getElem_toArray, List.getElem_cons_succ, List.getElem_cons_zero, List.setIfInBounds_toArray, List.set_cons_zero, List.set_cons_succ]))
                (refine wpAny_take (i := 16) (v := ?_) rfl (by kernel_rfl) (by kernel_rfl) (by kernel_rfl) (fun _ _ _ h => h) (Or.inl ⟨by rfl, fun w => ?_⟩) ?_; rotate_left; · (go_simp <;> with_reducible rfl); (try simp only [Act.put, List.getElem_toArray, List.getElem_cons_succ, List.getElem_cons_zero, List.setIfInBounds_toArray, List.set_cons_zero, List.set_cons_succ]))
                (refine wpAny_ready (rs := [18]) (by kernel_rfl) (by simp) ?_; refine AllReady.cons rfl (fun K hK => ?_) AllReady.nil; go_simp; refine hK _ _ ?_; clear hK K)
                refine wpAny_done (by kernel_rfl) ?_ _
                go_wp2
                go_meet
                refine ⟨_, rfl, ?_, ?_, ?_⟩
                · first | exact Nat.le_refl _ | omega
                · (refine five_set (x := #[]) (a := .string ByteArray.empty) (b := .int .u32 0) (c := .int .u32 0) (d := .int .i64 0) (e := .int .i64 0) ?_; rw [hb2.block _ (by (first | omega | (simp only [heap_len]; omega) | exact Nat.lt_of_lt_of_eq (Nat.lt_succ_self _) (heap_len _ _).symm)), hb1.block _ (by (first | omega | (simp only [heap_len]; omega) | exact Nat.lt_of_lt_of_eq (Nat.lt_succ_self _) (heap_len _ _).symm))]; exact heap_new _ _ _ rfl)
                · repeat' (first | with_reducible exact s2 | with_reducible refine Below.alloc s2 ?_ _ | with_reducible refine Below.setCell ?_ ?_ _ | exact Nat.le_refl _ | (show _ ≤ _; omega))
        case rest =>
          obtain ⟨g, rfl, hg1, hg2, hb⟩ := hcut
          have HB4 : Hid (Below w1.heap.size w1 wc) := Lib.hid (below_then HB3.out hb)
          have HO : Hid (wc.ownsRow w1.heap.size 39 5 u5 done.length (symVs done)) := Lib.hid (own_below H1.out (HBr.out.trans (hb.mono HBr.out.size)))
          obtain ⟨S, hS⟩ : ∃ S : SymD, S = ⟨nm, x, y, (bb : Int) / 16, (pp : Int)⟩ := ⟨_, rfl⟩
          have HOK : Hid S.Ok := Lib.hid (by
            rw [hS]
            have h1 := cutA_len (strs.drop at0)
            have h2 := HST.out
            rw [List.length_drop, ← HNM.out] at h1
            exact ⟨by show nm.length ≤ _; omega, by show x < _; omega, by show y < _; omega, by show _ ≤ (bb : Int) / 16; omega, by show (bb : Int) / 16 ≤ _; omega, by show _ ≤ (pp : Int); omega, by show (pp : Int) ≤ _; omega⟩)
          have HS : Hid (ends = true → S = chunkSym strs (r.take 16)) := Lib.hid (fun e => by
            rw [hS, HX.out, HY.out, HBB.out, HPP.out, HNM.out]
            rw [HEN.out, hat2.out] at e
            rw [hat2.out]
            exact chunk_cut (by have := HGE.out; rw [hat2.out] at this; exact this) e)
          have HOKC : Hid (chunkOk strs (r.take 16) = (ends && (fitS S && decide (symB S at0 = r.take 16)))) := Lib.hid (by
            have h3 : txtOk strs at0 = ends := by rw [txtOk, decide_eq_true HGE.out, Bool.true_and, HEN.out]
            rw [chunkOk, chunkFit, wordAt_take _ _ (by omega), ← hat2.out, h3]
            cases ends with
            | false => rfl
            | true => rw [← HS.out rfl, Bool.true_and, Bool.true_and])
          have G2 : Hid (wc.heap[g]? = some (.cells (symV S) 39)) := Lib.hid (by rw [hS]; exact hg2)
          have hgw : w1.heap.size ≤ g := by have := HB3.out.size; omega
          have hn64 : IntKind.i64.wrap (at0 : Int) = at0 := IntWalk.i64_in _ (by omega)
          have HAT : Hid (at0 < 9223372036854775808) := Lib.hid (by omega)
          clear hS hg2 hb hg1 HX HY HBB HPP HNM HEN hx' hy' hxb hyb hbi hpi hbl hpl hwx hwy hwb hwp hx8 hx12 B0 hi4 hi8 hi12 hi13 hi15 HB3 HBr H1 H2
          go_upto_region 13 with fail
          cases ends with
          | false =>
            have hres : Hid (readF syms strs = none) := Lib.hid (by rw [hF.out, hstep.out, HOKC.out]; rfl)
            (refine wp_region_grown (by kernel_rfl) (by kernel_rfl) ?_; (repeat (go_big_quiet_step (fail))); refine wpQuiet_nil ?_; intro _ hw'; obtain ⟨sG, hw''⟩ := hw'; subst hw'')
            go_wp2
            go_ret2
            exact ⟨_, by rw [hres.out]; rfl, by rw [hres.out]; exact .inl ⟨rfl, rfl⟩, HB0.out.trans ((below_then HB4.out sG.below).mono (Nat.le_of_lt HW.out))⟩
          | true =>
            have HFI0 : Hid (∀ w : World, Calls Tryd.prog 23 #[.agg (symV S)] w fun e w' => e = .returned (.bool (fitS S)) ∧ Below w.heap.size w w') := Lib.hid (fun w => fits_any S HOK.out w)
            cases hfit : fitS S with
            | false =>
              have hres : Hid (readF syms strs = none) := Lib.hid (by rw [hF.out, hstep.out, HOKC.out, hfit]; rfl)
              have HFI : Hid (∀ w : World, Calls Tryd.prog 23 #[.agg (symV S)] w fun e w' => e = .returned (.bool false) ∧ Below w.heap.size w w') := Lib.hid (by have := HFI0.out; rwa [hfit] at this)
              clear hfit HFI0
              refine wp_region_grown (by kernel_rfl) (by kernel_rfl) ?_
              (repeat (first
                | go_big_quiet_step ((go_at_call 23; exact Calls.grown (HFI.out _)))
                | (go_big_quiet_want; refine quiet_load_row 39 (.tmp 11) (symV S) rfl rfl G2.out (by kernel_rfl) (sym_size S) ?_; go_big_quiet_on; (try simp only [Act.put, List.getElem_toArray, List.getElem_cons_succ, List.getElem_cons_zero, List.setIfInBounds_toArray, List.set_cons_zero, List.set_cons_succ]))))
              refine wpQuiet_nil ?_
              intro _ hw'
              obtain ⟨sG, hw''⟩ := hw'
              subst hw''
              go_wp2
              go_ret2
              exact ⟨_, by rw [hres.out]; rfl, by rw [hres.out]; exact .inl ⟨rfl, rfl⟩, HB0.out.trans ((below_then HB4.out sG.below).mono (Nat.le_of_lt HW.out))⟩
            | true =>
              have HFI : Hid (∀ w : World, Calls Tryd.prog 23 #[.agg (symV S)] w fun e w' => e = .returned (.bool true) ∧ Below w.heap.size w w') := Lib.hid (by have := HFI0.out; rwa [hfit] at this)
              have HSY : Hid (∀ w : World, Calls Tryd.prog 24 #[.agg (symV S), .int .i64 at0] w fun e w' => e = .returned (.string (mkB (symB S at0))) ∧ Below w.heap.size w w') := Lib.hid (fun w => by
                obtain ⟨-, -, -, b0, b2, p0, p2⟩ := fitS_is hfit
                exact symbol_any S HOK.out b0 b2 p0 p2 at0 HAT.out w)
              have HOKD : Hid (chunkOk strs (r.take 16) = decide (symB S at0 = r.take 16)) := Lib.hid (by rw [HOKC.out, hfit]; rfl)
              clear hfit HFI0
              obtain ⟨Y, hY⟩ : ∃ Y, Y = symB S at0 := ⟨_, rfl⟩
              rw [← hY] at HSY HOKD
              clear hY
              by_cases heq : Y = r.take 16
              · have hchk : Hid (chunkOk strs (r.take 16) = true) := Lib.hid (by rw [HOKD.out, decide_eq_true heq])
                rw [heq] at HSY
                clear heq HOKD
                refine wp_region_grown (by kernel_rfl) (by kernel_rfl) ?_
                (repeat (first
                  | go_big_quiet_step ((first | (go_at_call 23; exact Calls.grown (HFI.out _)) | (go_at_call 24; exact Calls.grown (HSY.out _))))
                  | (go_big_quiet_want; refine quiet_load_row 39 (.tmp 11) (symV S) rfl rfl G2.out (by kernel_rfl) (sym_size S) ?_; go_big_quiet_on; (try simp only [Act.put, List.getElem_toArray, List.getElem_cons_succ, List.getElem_cons_zero, List.setIfInBounds_toArray, List.set_cons_zero, List.set_cons_succ]))))
                refine wpQuiet_nil ?_
                intro _ hw'
                obtain ⟨sG, hw''⟩ := hw'
                subst hw''
                obtain ⟨W4, hW4⟩ : ∃ W4, W4 = sG.w := ⟨_, rfl⟩
                have HB5 : Hid (Below w1.heap.size w1 W4) := Lib.hid (by rw [hW4]; exact below_then HB4.out sG.below)
                have HO5 : Hid (W4.ownsRow w1.heap.size 39 5 u5 done.length (symVs done)) := Lib.hid (by rw [hW4]; exact own_below HO.out sG.below)
                have G5 : W4.heap[g]? = some (.cells (symV S) 39) := by rw [hW4]; exact sG.row G2.out
                have g0 : W4.cell? ⟨g, 0, none⟩ = some (.string (mkB S.name)) := cell_at G5 rfl
                have g1 : W4.cell? ⟨g, 1, none⟩ = some (.int .u32 S.value) := cell_at G5 rfl
                have g2 : W4.cell? ⟨g, 2, none⟩ = some (.int .u32 S.size) := cell_at G5 rfl
                have g3 : W4.cell? ⟨g, 3, none⟩ = some (.int .i64 S.bind) := cell_at G5 rfl
                have g4 : W4.cell? ⟨g, 4, none⟩ = some (.int .i64 S.part) := cell_at G5 rfl
                rw [← hW4]
                clear hW4 G5 HB4 HO sG
                have hres : Hid (readG strs (syms.length / 16 - 1) (syms.drop 16) = (readG strs ((r.drop 16).length / 16) (r.drop 16)).map ((done ++ [S]) ++ ·)) := Lib.hid (by
                  rw [hstep.out, hchk.out, if_pos rfl, ← HS.out rfl, Option.map_map]
                  congr 1
                  funext t
                  simp)
                clear HSY HFI HAT hchk HS HOKC HOK
                go_wp2_with (at_builtin; refine wpList_append_own _ rfl _ _ 26 rfl w1.heap.size 39 i0 _ 5 40 Tryd.underlying26 hi hz0 hz1 hz2 rfl (by decide) _ _ _ rfl (HO5.out.alloc _) ⟨W4.heap.size, 0, none⟩ 1 1 (symV S).toList rfl rfl ?c1 ?c2 ?c3 ?c4 ?c5 ?_)
                case c1 =>
                  intro j u hj
                  match j, hj with
                  | 0, hj => simp [symV] at hj; subst hj; simp [Addr.add]
                  | 1, hj => simp [symV] at hj; subst hj; simp [Addr.add]
                  | 2, hj => simp [symV] at hj; subst hj; simp [Addr.add]
                  | 3, hj => simp [symV] at hj; subst hj; simp [Addr.add]
                  | 4, hj => simp [symV] at hj; subst hj; simp [Addr.add]
                case c2 => intro u hu; simp [symV] at hu; rcases hu with rfl | rfl | rfl | rfl | rfl <;> rfl
                case c3 => unfold maxLen; omega
                case c4 => omega
                case c5 => have := HB5.out.size; simp; omega
                intro v' w5 hown' hgrow _
                have K1 : Hid (w5.ownsRow w1.heap.size 39 5 v' (done ++ [S]).length (symVs (done ++ [S]))) := Lib.hid (by
                  have h1 : symVs (done ++ [S]) = symVs done ++ (symV S).toList := by simp [symVs]
                  rw [h1, List.length_append]; exact hown')
                have K2 : Hid (Below w1.heap.size w1 w5) := Lib.hid ((HB5.out.alloc (by have := HB5.out.size; omega) _).grown hgrow (by have := HB5.out.size; simp; omega) (fun k hk => (HO5.out.lt k hk).1))
                clear hown' hgrow
                go_wp2
                go_roundw
                case rel => exact ⟨done ++ [S], r.drop 16, rfl, K1, K2, Lib.hid ⟨hres.out, by have := H3.out.2.1; rw [List.length_drop]; omega, by have := H3.out.2.2; rw [List.length_drop, List.length_append]; simp; omega⟩⟩
                case measure => simp [strLen, mkB_size]; omega
              · have hres : Hid (readF syms strs = none) := Lib.hid (by rw [hF.out, hstep.out, HOKD.out, decide_eq_false heq]; rfl)
                have hne1 : mkB Y ≠ mkB (r.take 16) := fun e => heq (mkB_inj.1 e)
                have hne2 : ((mkB Y).toList == (mkB (r.take 16)).toList) = false := by rw [bytes_toList, bytes_toList]; exact beq_eq_false_iff_ne.2 heq
                clear heq HOKD
                refine wp_region_grown (by kernel_rfl) (by kernel_rfl) ?_
                (repeat (first
                  | go_big_quiet_step ((first | (go_at_call 23; exact Calls.grown (HFI.out _)) | (go_at_call 24; exact Calls.grown (HSY.out _))))
                  | (go_big_quiet_want; refine quiet_load_row 39 (.tmp 11) (symV S) rfl rfl G2.out (by kernel_rfl) (sym_size S) ?_; go_big_quiet_on; (try simp only [Act.put, List.getElem_toArray, List.getElem_cons_succ, List.getElem_cons_zero, List.setIfInBounds_toArray, List.set_cons_zero, List.set_cons_succ]))))
                refine wpQuiet_nil ?_
                intro _ hw'
                obtain ⟨sG, hw''⟩ := hw'
                subst hw''
                go_wp2
                go_ret2
                exact ⟨_, by rw [hres.out]; rfl, by rw [hres.out]; exact .inl ⟨rfl, rfl⟩, HB0.out.trans ((below_then HB4.out sG.below).mono (Nat.le_of_lt HW.out))⟩
end Go.Proofs.YtlifdfkconklfaaDoor
