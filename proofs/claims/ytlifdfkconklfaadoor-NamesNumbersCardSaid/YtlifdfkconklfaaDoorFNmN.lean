/-
  Names: the document's Read.
-/
import Derived.Test.YtlifdfkconklfaaDoorFNmM
namespace Go.Proofs.YtlifdfkconklfaaDoor
open Go Go.RowKit
set_option linter.unusedVariables false
set_option linter.unusedSimpArgs false

set_option maxHeartbeats 4000000 in
set_option maxRecDepth 100000 in
theorem rread_bad (syms strs hash : List UInt8) (hl : syms.length ≤ 1000000) (hr : rOk syms = false) (w : World) :
    Calls Tryd.prog 10 #[.agg (tabV syms strs hash)] w (ReadPost (readF syms strs) w) := by
  have hsz := mkB_size syms
  have hF : Hid (readF syms strs = none) := Lib.hid (by rw [readF_rG, hr]; rfl)
  have hli : (syms.length : Int) ≤ 1000000 := by omega
  unfold tabV
  have fin : ∀ w', Below w.heap.size w w' → ReadPost (readF syms strs) w (.returned (.tuple #[.slice none 0 0, .int .i64 103])) w' := fun w' hb => ⟨_, by rw [hF.out]; rfl, .inl ⟨rfl, by rw [hF.out]; rfl⟩, hb⟩
  have FIN := Lib.hid fin
  clear fin
  obtain ⟨m, hm⟩ : ∃ m : Nat, (syms.length : Int) % 16 = m := ⟨syms.length % 16, by omega⟩
  obtain ⟨n, hn⟩ : ∃ n : Nat, (syms.length : Int) / 16 = n := ⟨syms.length / 16, by omega⟩
  by_cases c1 : m = 0
  · subst c1
    by_cases c2 : 1 ≤ n
    · have c3 : 201 < n := by
        apply Nat.lt_of_not_le
        intro h
        rw [rOk, decide_eq_true (show syms.length % 16 = 0 by omega), decide_eq_true (show 1 ≤ syms.length / 16 by omega), decide_eq_true (show syms.length / 16 ≤ 201 by omega)] at hr
        cases hr
      have c3i : (201 : Int) < n := by omega
      have c2i : (1 : Int) ≤ n := by omega
      clear c2 c3 hr hl
      go_enter Tryd.func10, Tryd.ntmps10
      go_wp2
      go_ret2
      exact FIN.out _ ((Below.refl _ _).alloc (Nat.le_refl _) _)
    · have c2i : (n : Int) < 1 := by omega
      clear c2 hr hl
      go_enter Tryd.func10, Tryd.ntmps10
      go_wp2
      go_ret2
      exact FIN.out _ ((Below.refl _ _).alloc (Nat.le_refl _) _)
  · have h15' : ((m : Int) != 0) = true := by rw [bne_iff_ne]; omega
    clear c1 hr hl
    go_enter Tryd.func10, Tryd.ntmps10
    go_wp2
    go_ret2
    exact FIN.out _ ((Below.refl _ _).alloc (Nat.le_refl _) _)
def z16 : Obj := .cells (madeCells #[.int .u8 0] 16) 5
theorem make16 (W : World) : (Instr.makeSlice 46 (.int .i64 16) (.int .i64 16)).run Tryd.prog W = .ok (.slice (some ⟨W.heap.size, 0, none⟩) 16 16) (W.alloc z16) := by
  obtain ⟨i0, hi, hz0, hz1, hz2⟩ := info_parts u8_info
  have h := run_makeSlice (P := Tryd.prog) W 46 5 i0 (.int .u8 0) Tryd.underlying46 hi hz0 .i64 .i64 16 16 (by decide) (by decide) (by rw [hz1]; decide) (by rw [hz2]; decide) (by decide)
  rw [h, hz1]; rfl
theorem conv16 (W : World) (g : Nat) (h : W.heap[g]? = some z16) : (convert 46 9 (.slice (some ⟨g, 0, none⟩) 16 16)).run Tryd.prog W = .ok (.string (mkB zer16)) W := by
  refine run_convert_bytes_back W _ _ 5 ⟨g, 0, none⟩ 16 zer16 Tryd.underlying46 Tryd.underlying5 Tryd.underlying9 ?_
  intro j hj
  have hj' : j < 16 := hj
  have h1 : (⟨g, 0, none⟩ : Addr).add j = ⟨g, j, none⟩ := by
    unfold Addr.add; split
    · rename_i e; rw [e]
    · simp
  have h2 : ∀ j, j < 16 → (madeCells #[Value.int .u8 0] 16)[j]? = some (.int .u8 0) := fun j hj => by
    simp [madeCells, hj, Nat.mod_one]
  have h3 : ∀ j (h : j < 16), (zer16[j]'h).toNat = 0 := by decide
  rw [h1, cell_at h (h2 j hj')]
  exact congrArg (fun n : Nat => some (Value.int IntKind.u8 (n : Int))) (h3 j hj').symm
set_option maxHeartbeats 4000000 in
set_option maxRecDepth 100000 in
theorem rread_good (syms strs hash : List UInt8) (hl : syms.length ≤ 1000000) (hst : strs.length ≤ 1000000) (hr : rOk syms = true) (w : World) :
    Calls Tryd.prog 10 #[.agg (tabV syms strs hash)] w (ReadPost (readF syms strs) w) := by
  have hsz := mkB_size syms
  obtain ⟨c1, c2, c3⟩ : syms.length % 16 = 0 ∧ 1 ≤ syms.length / 16 ∧ syms.length / 16 ≤ 201 := by simpa only [rOk, Bool.and_eq_true, decide_eq_true_eq] using hr
  obtain ⟨n, hn⟩ : ∃ n : Nat, n = syms.length / 16 := ⟨_, rfl⟩
  have hF : Hid (readF syms strs = (rG strs (n - 1) (syms.drop 16)).bind (fun p => if zer16 ++ p.2 = syms then some p.1 else none)) := Lib.hid (by rw [readF_rG, hr, hn]; rfl)
  have hni : (syms.length : Int) / 16 = n := by omega
  have hli : (syms.length : Int) ≤ 1000000 := by omega
  have HST := Lib.hid hst
  have hm : (syms.length : Int) % 16 = 0 := by omega
  have L0 : Hid (syms.length = 16 * n ∧ 1 ≤ n ∧ n ≤ 201) := Lib.hid (by omega)
  have c2i : (1 : Int) ≤ n := by omega
  have c3i : (n : Int) ≤ 201 := by omega
  obtain ⟨i0, hi, hz0, hz1, hz2⟩ := info_parts sym_info
  unfold tabV
  clear c1 c2 c3 hr hl hst hn
  go_enter Tryd.func10, Tryd.ntmps10
  go_upto_region 1 with fail
  obtain ⟨W, hW⟩ : ∃ W, W = w.alloc (.cells #[.string (mkB syms), .string (mkB strs), .string (mkB hash)] 23) := ⟨_, rfl⟩
  have g0 : W.cell? ⟨w.heap.size, 0, none⟩ = some (.string (mkB syms)) := by rw [hW]; exact cell_at (heap_new _ _ _ rfl) rfl
  have g1 : W.cell? ⟨w.heap.size, 1, none⟩ = some (.string (mkB strs)) := by rw [hW]; exact cell_at (heap_new _ _ _ rfl) rfl
  have HWB : Hid (Below w.heap.size w W ∧ w.heap.size < W.heap.size) := Lib.hid ⟨by rw [hW]; exact (Below.refl _ _).alloc (Nat.le_refl _) _, by rw [hW]; simp only [heap_len]; omega⟩
  rw [← hW]
  clear hW
  have hm16 := make16
  obtain ⟨Z, hZ⟩ : ∃ Z, Z = z16 := ⟨_, rfl⟩
  rw [← hZ] at hm16
  have hc16 : ∀ W : World, (convert 46 9 (.slice (some ⟨W.heap.size, 0, none⟩) 16 16)).run Tryd.prog (W.alloc Z) = .ok (.string (mkB zer16)) (W.alloc Z) := fun W => conv16 _ _ (by rw [hZ]; exact heap_new _ _ _ rfl)
  clear hZ
  go_upto_region 6 with fail
  obtain ⟨w1, hw1⟩ : ∃ w1, w1 = W.alloc Z := ⟨_, rfl⟩
  have HC1 : Hid (w1.cell? ⟨w.heap.size, 1, none⟩ = some (.string (mkB strs))) := Lib.hid (by rw [hw1]; exact (((Below.refl W.heap.size W).alloc (Nat.le_refl _) Z).cell (p := ⟨w.heap.size, 1, none⟩) HWB.out.2).trans g1)
  have HC0 : Hid (w1.cell? ⟨w.heap.size, 0, none⟩ = some (.string (mkB syms))) := Lib.hid (by rw [hw1]; exact (((Below.refl W.heap.size W).alloc (Nat.le_refl _) Z).cell (p := ⟨w.heap.size, 0, none⟩) HWB.out.2).trans g0)
  have HB0 : Hid (Below w.heap.size w w1) := Lib.hid (by rw [hw1]; exact HWB.out.1.alloc (Nat.le_of_lt HWB.out.2) _)
  have HW : Hid (w.heap.size < w1.heap.size) := Lib.hid (by rw [hw1]; have := HWB.out.2; simp only [heap_len]; omega)
  rw [← hw1]
  clear hw1 g0 g1 HWB hm16 hc16 hm hni c2i c3i
  go_wp2
  go_loopw [5, 6, 7] (fun v a kk wr => ∃ (done : List SymD) (b : List UInt8) (k : Nat), a = .string (mkB b) ∧ kk = .int .i64 (k : Int) ∧ Hid (wr.ownsRow w1.heap.size 39 5 v done.length (symVs done)) ∧ Hid (Below w1.heap.size w1 wr) ∧
    Hid ((rG strs (n - 1) (syms.drop 16)).map (fun p => (p.1, zer16 ++ p.2)) = (rG strs (n - k) (syms.drop (16 * k))).map (fun p => (done ++ p.1, b ++ p.2)) ∧ done.length + 1 = k ∧ k ≤ n ∧ b.length = 16 * k)) (fun _ _ x _ => n - (intOf x).toNat)
  case atStart => exact ⟨[], zer16, 1, rfl, rfl, Lib.hid (World.ownsRow_nil _ _ _ _), Lib.hid (Below.refl _ _), Lib.hid ⟨by simp, rfl, L0.out.2.1, rfl⟩⟩
  case round =>
    obtain ⟨done, b, k, rfl, rfl, H1, H2, H3⟩ := hrel
    have hC1 : wr.cell? ⟨w.heap.size, 1, none⟩ = some (.string (mkB strs)) := (H2.out.cell (p := ⟨w.heap.size, 1, none⟩) HW.out).trans HC1.out
    have hC0 : wr.cell? ⟨w.heap.size, 0, none⟩ = some (.string (mkB syms)) := (H2.out.cell (p := ⟨w.heap.size, 0, none⟩) HW.out).trans HC0.out
    have fin : ∀ w', Below w1.heap.size w1 w' → readF syms strs = none → ReadPost (readF syms strs) w (.returned (.tuple #[.slice none 0 0, .int .i64 103])) w' := fun w' hb hn => ⟨_, by rw [hn]; rfl, .inl ⟨rfl, by rw [hn]; rfl⟩, HB0.out.trans (hb.mono (Nat.le_of_lt HW.out))⟩
    have FIN := Lib.hid fin
    clear fin
    by_cases hk : k < n
    · have hki : (k : Int) < n := by omega
      have hkb : 16 * k + 16 ≤ syms.length := by have := L0.out; omega
      have hk1 : 1 ≤ k := by have := H3.out.2.1; omega
      have hkb2 : k ≤ 201 := by have := L0.out; omega
      have hdl : done.length ≤ 201 := by have := H3.out.2.1; omega
      have hbln : (b.length : Int) ≤ 4000 := by have := H3.out.2.2.2; omega
      obtain ⟨u, hu⟩ : ∃ u : Nat, u = 16 * k := ⟨_, rfl⟩
      obtain ⟨y, hy⟩ : ∃ y : Nat, y = u + 16 := ⟨_, rfl⟩
      have hui : (16 : Int) * (k : Int) = (u : Int) := by omega
      have hyi : (u : Int) + 16 = (y : Int) := by omega
      have hub : (u : Int) ≤ (syms.length : Int) - 16 := by omega
      have hyb : (y : Int) ≤ (syms.length : Int) := by omega
      have huy : (u : Int) ≤ (y : Int) := by omega
      obtain ⟨c, hc⟩ : ∃ c, c = (syms.drop u).take 16 := ⟨_, rfl⟩
      have hx : (mkB syms).extract u y = mkB c := by have := mkB_extract syms u y; rwa [show y - u = 16 by omega, ← hc] at this
      have hcl : c.length = 16 := by rw [hc, List.length_take, List.length_drop]; omega
      have hcs : (mkB c).size = 16 := by rw [mkB_size, hcl]
      obtain ⟨at0, hat⟩ : ∃ x, x = wordAt c 0 := ⟨_, rfl⟩
      have hatb : at0 < 4294967296 := by rw [hat]; exact wordAt_lt _ _
      have HW0 : Hid (∀ w : World, Calls Tryd.prog 25 #[.string (mkB c), .int .i64 0] w fun e w' => e = .returned (.int .u32 (at0 : Nat)) ∧ w = w') := Lib.hid (fun w => by rw [hat]; exact rword_any c 0 (by omega) (by omega) w)
      obtain ⟨x4, hx4⟩ : ∃ x, x = wordAt c 4 := ⟨_, rfl⟩
      obtain ⟨x8, hx8⟩ : ∃ x, x = wordAt c 8 := ⟨_, rfl⟩
      have HW4 : Hid (∀ w : World, Calls Tryd.prog 25 #[.string (mkB c), .int .i64 4] w fun e w' => e = .returned (.int .u32 (x4 : Nat)) ∧ w = w') := Lib.hid (fun w => by rw [hx4]; exact rword_any c 4 (by omega) (by omega) w)
      have HW8 : Hid (∀ w : World, Calls Tryd.prog 25 #[.string (mkB c), .int .i64 8] w fun e w' => e = .returned (.int .u32 (x8 : Nat)) ∧ w = w') := Lib.hid (fun w => by rw [hx8]; exact rword_any c 8 (by omega) (by omega) w)
      obtain ⟨nm, hnm⟩ : ∃ nm, nm = txtV strs at0 := ⟨_, rfl⟩
      obtain ⟨ends, hends⟩ : ∃ ends, ends = txtOk strs at0 := ⟨_, rfl⟩
      have HTX : Hid (∀ w : World, Calls Tryd.prog 26 #[.string (mkB strs), .int .u32 at0] w fun e w' => e = .returned (.tuple #[.string (mkB nm), .bool ends]) ∧ w = w') := Lib.hid (fun w => by rw [hnm, hends]; exact rtext_any strs at0 (by have := HST.out; omega) hatb w)
      obtain ⟨bb, hbb⟩ : ∃ x, x = byteAt c 12 := ⟨_, rfl⟩
      obtain ⟨pp, hpp⟩ : ∃ x, x = byteAt c 15 := ⟨_, rfl⟩
      have hbi : ∀ h, ((mkB c)[12]'h).toNat = bb := fun h => (byteAt_is c 12 (by omega) h).trans hbb.symm
      have hpi : ∀ h, ((mkB c)[15]'h).toNat = pp := fun h => (byteAt_is c 15 (by omega) h).trans hpp.symm
      have hbl : bb ≤ 255 := by rw [hbb]; exact byteAt_lt _ _
      have hpl : pp ≤ 255 := by rw [hpp]; exact byteAt_lt _ _
      have hwb1 : IntKind.i64.wrap (bb : Int) = (bb : Int) := IntWalk.i64_in _ (by omega)
      have hwb : IntKind.i64.wrap ((bb : Int) / 16) = (bb : Int) / 16 := IntWalk.i64_in _ (by omega)
      have hwp : IntKind.i64.wrap (pp : Int) = pp := IntWalk.i64_in _ (by omega)
      obtain ⟨S, hS⟩ : ∃ S : SymD, S = ⟨nm, x4, x8, (bb : Int) / 16, (pp : Int)⟩ := ⟨_, rfl⟩
      have HSC : Hid (S = chunkSym strs c) := Lib.hid (by rw [hS, hnm, hat, hx4, hx8, hbb, hpp]; rfl)
      have HOK : Hid S.Ok := Lib.hid (by rw [HSC.out]; exact chunkSym_ok _ _ (by have := HST.out; omega))
      have HFT : Hid (chunkFit strs c = (ends && fitS S)) := Lib.hid (by rw [chunkFit, ← hat, ← hends, ← HSC.out])
      have HST2 : Hid (rG strs (n - k) (syms.drop (16 * k)) = if chunkFit strs c then (rG strs (n - (k + 1)) (syms.drop (16 * (k + 1)))).map (fun p => (S :: p.1, symB S at0 ++ p.2)) else none) := Lib.hid (by
        rw [rG_step n k hk, HSC.out, hat, hc, hu, wordAt_take _ _ (by omega), List.drop_drop, show 16 * k + 16 = 16 * (k + 1) by omega])
      have HATB := Lib.hid hatb
      have hati : (at0 : Int) ≤ 4294967295 := by omega
      have Hk := Lib.hid hk
      clear hc hat hx4 hx8 hnm hends hbb hpp hu hy hk hatb hcl
      go_upto_region 12 with (first
        | (go_at_call 25; refine (HW0.out _).mono ?_; rintro e w2 ⟨rfl, rfl⟩)
        | (go_at_call 26; refine (HTX.out _).mono ?_; rintro e w2 ⟨rfl, rfl⟩))
      go_cut [12] (fun s12 wx => ∃ g : Nat, s12 = .pointer (some ⟨g, 0, none⟩) ∧ wr.heap.size ≤ g ∧ wx.heap[g]? = some (.cells (symV ⟨nm, x4, x8, (bb : Int) / 16, (pp : Int)⟩) 39) ∧ Below wr.heap.size wr wx)
      case first =>
          refine wp_region_any (by kernel_rfl) ?_
          change wpAny _ _ _ _ _ _ _ (World.drew _)
          (refine wpAny_take (i := 0) (v := ?_) rfl (by kernel_rfl) (by kernel_rfl) (by kernel_rfl) (fun _ _ _ h => h) (Or.inl ⟨by rfl, fun w => ?_⟩) ?_; rotate_left; · (go_simp <;> with_reducible rfl); (try simp only [Act.put, List.getElem_toArray, List.getElem_cons_succ, List.getElem_cons_zero, List.setIfInBounds_toArray, List.set_cons_zero, List.set_cons_succ]))
          (refine wpAny_take (i := 1) (v := ?_) rfl (by kernel_rfl) (by kernel_rfl) (by kernel_rfl) (fun _ _ _ h => h) (Or.inl ⟨by rfl, fun w => ?_⟩) ?_; rotate_left; · (go_simp <;> with_reducible rfl); (try simp only [Act.put, List.getElem_toArray, List.getElem_cons_succ, List.getElem_cons_zero, List.setIfInBounds_toArray, List.set_cons_zero, List.set_cons_succ]))
          (refine wpAny_take (i := 3) (v := ?_) rfl (by kernel_rfl) (by kernel_rfl) (by kernel_rfl) (fun _ _ _ h => h) (Or.inl ⟨by rfl, fun w => ?_⟩) ?_; rotate_left; · (go_simp <;> with_reducible rfl); (try simp only [Act.put, List.getElem_toArray, List.getElem_cons_succ, List.getElem_cons_zero, List.setIfInBounds_toArray, List.set_cons_zero, List.set_cons_succ]))
          (refine wpAny_take (i := 5) (v := ?_) rfl (by kernel_rfl) (by kernel_rfl) (by kernel_rfl) (fun _ _ _ h => h) (Or.inl ⟨by rfl, fun w => ?_⟩) ?_; rotate_left; · (go_simp <;> with_reducible rfl); (try simp only [Act.put, List.getElem_toArray, List.getElem_cons_succ, List.getElem_cons_zero, List.setIfInBounds_toArray, List.set_cons_zero, List.set_cons_succ]))
          (refine wpAny_take (i := 6) (v := ?_) rfl (by kernel_rfl) (by kernel_rfl) (by kernel_rfl) (fun _ _ _ h => h) (Or.inl ⟨by rfl, fun w => ?_⟩) ?_; rotate_left; · (go_simp <;> with_reducible rfl); (try simp only [Act.put, List.getElem_toArray, List.getElem_cons_succ, List.getElem_cons_zero, List.setIfInBounds_toArray, List.set_cons_zero, List.set_cons_succ]))
          (refine wpAny_take (i := 9) (v := ?_) rfl (by kernel_rfl) (by kernel_rfl) (by kernel_rfl) (fun _ _ _ h => h) (Or.inl ⟨by rfl, fun w => ?_⟩) ?_; rotate_left; · (go_simp <;> with_reducible rfl); (try simp only [Act.put, List.getElem_toArray, List.getElem_cons_succ, List.getElem_cons_zero, List.setIfInBounds_toArray, List.set_cons_zero, List.set_cons_succ]))
          (refine wpAny_take (i := 10) (v := ?_) rfl (by kernel_rfl) (by kernel_rfl) (by kernel_rfl) (fun _ _ _ h => h) (Or.inl ⟨by rfl, fun w => ?_⟩) ?_; rotate_left; · (go_simp <;> with_reducible rfl); (try simp only [Act.put, List.getElem_toArray, List.getElem_cons_succ, List.getElem_cons_zero, List.setIfInBounds_toArray, List.set_cons_zero, List.set_cons_succ]))
          (refine wpAny_take (i := 7) (v := ?_) rfl (by kernel_rfl) (by kernel_rfl) (by kernel_rfl) (fun _ _ _ h => h) (Or.inl ⟨by rfl, fun w => ?_⟩) ?_; rotate_left; · (go_simp <;> with_reducible rfl); (try simp only [Act.put, List.getElem_toArray, List.getElem_cons_succ, List.getElem_cons_zero, List.setIfInBounds_toArray, List.set_cons_zero, List.set_cons_succ]))
          (refine wpAny_take (i := 8) (v := ?_) rfl (by kernel_rfl) (by kernel_rfl) (by kernel_rfl) (fun _ _ _ h => h) (Or.inl ⟨by rfl, fun w => ?_⟩) ?_; rotate_left; · (go_simp <;> with_reducible rfl); (try simp only [Act.put, List.getElem_toArray, List.getElem_cons_succ, List.getElem_cons_zero, List.setIfInBounds_toArray, List.set_cons_zero, List.set_cons_succ]))
          (refine wpAny_take (i := 11) (v := ?_) rfl (by kernel_rfl) (by kernel_rfl) (by kernel_rfl) (fun _ _ _ h => h) (Or.inl ⟨by rfl, fun w => ?_⟩) ?_; rotate_left; · (go_simp <;> with_reducible rfl); (try simp only [Act.put, List.getElem_toArray, List.getElem_cons_succ, List.getElem_cons_zero, List.setIfInBounds_toArray, List.set_cons_zero, List.set_cons_succ]))
          refine wpAny_ready (rs := [2, 13]) (by kernel_rfl) (by simp) ?_
          refine AllReady.cons rfl (fun K hK => ?_) ?_
          · go_simp
            go_wp2_with (go_at_call 25; refine (HW4.out _).mono ?_; rintro e w4 ⟨rfl, rfl⟩)
            refine wpAny_ready (rs := [4, 13]) (by kernel_rfl) (by simp) ?_
            refine AllReady.cons rfl (fun K hK => ?_) ?_
            · go_simp
              go_wp2_with (go_at_call 25; refine (HW8.out _).mono ?_; rintro e w5 ⟨rfl, rfl⟩)
              (refine wpAny_take (i := 12) (v := ?_) rfl (by kernel_rfl) (by kernel_rfl) (by kernel_rfl) (fun _ _ _ h => h) (Or.inl ⟨by rfl, fun w => ?_⟩) ?_; rotate_left; · (go_simp <;> with_reducible rfl); (try simp only [Act.put, List.getElem_toArray, List.getElem_cons_succ, List.getElem_cons_zero, List.setIfInBounds_toArray, List.set_cons_zero, List.set_cons_succ]))
              refine wpAny_ready (rs := [13]) (by kernel_rfl) (by simp) ?_
              refine AllReady.cons rfl (fun K hK => ?_) AllReady.nil
              · go_simp
                refine hK _ _ ?_
                clear hK K
                (refine wpAny_ready (rs := [14]) (by kernel_rfl) (by simp) ?_; refine AllReady.cons rfl (fun K hK => ?_) AllReady.nil; go_simp; refine hK _ _ ?_; clear hK K)
                refine wpAny_done (by kernel_rfl) ?_ _
                go_wp2
                go_meet
                refine ⟨_, rfl, ?_, ?_, ?_⟩
                · exact Nat.le_refl _
                · exact heap_new _ _ _ rfl
                · exact (Below.refl _ _).drew.alloc (Nat.le_refl _) _
            refine AllReady.cons rfl (fun K hK => ?_) AllReady.nil
            · go_simp
              refine hK _ _ ?_
              clear hK K
              refine wpAny_ready (rs := [4]) (by kernel_rfl) (by simp) ?_
              refine AllReady.cons rfl (fun K hK => ?_) AllReady.nil
              · go_simp
                go_wp2_with (go_at_call 25; refine (HW8.out _).mono ?_; rintro e w5 ⟨rfl, rfl⟩)
                (refine wpAny_take (i := 12) (v := ?_) rfl (by kernel_rfl) (by kernel_rfl) (by kernel_rfl) (fun _ _ _ h => h) (Or.inl ⟨by rfl, fun w => ?_⟩) ?_; rotate_left; · (go_simp <;> with_reducible rfl); (try simp only [Act.put, List.getElem_toArray, List.getElem_cons_succ, List.getElem_cons_zero, List.setIfInBounds_toArray, List.set_cons_zero, List.set_cons_succ]))
                (refine wpAny_ready (rs := [14]) (by kernel_rfl) (by simp) ?_; refine AllReady.cons rfl (fun K hK => ?_) AllReady.nil; go_simp; refine hK _ _ ?_; clear hK K)
                refine wpAny_done (by kernel_rfl) ?_ _
                go_wp2
                go_meet
                refine ⟨_, rfl, ?_, ?_, ?_⟩
                · exact Nat.le_refl _
                · exact heap_new _ _ _ rfl
                · exact (Below.refl _ _).drew.alloc (Nat.le_refl _) _
          refine AllReady.cons rfl (fun K hK => ?_) AllReady.nil
          · go_simp
            refine hK _ _ ?_
            clear hK K
            refine wpAny_ready (rs := [2]) (by kernel_rfl) (by simp) ?_
            refine AllReady.cons rfl (fun K hK => ?_) AllReady.nil
            · go_simp
              go_wp2_with (go_at_call 25; refine (HW4.out _).mono ?_; rintro e w4 ⟨rfl, rfl⟩)
              refine wpAny_ready (rs := [4]) (by kernel_rfl) (by simp) ?_
              refine AllReady.cons rfl (fun K hK => ?_) AllReady.nil
              · go_simp
                go_wp2_with (go_at_call 25; refine (HW8.out _).mono ?_; rintro e w5 ⟨rfl, rfl⟩)
                (refine wpAny_take (i := 12) (v := ?_) rfl (by kernel_rfl) (by kernel_rfl) (by kernel_rfl) (fun _ _ _ h => h) (Or.inl ⟨by rfl, fun w => ?_⟩) ?_; rotate_left; · (go_simp <;> with_reducible rfl); (try simp only [Act.put, List.getElem_toArray, List.getElem_cons_succ, List.getElem_cons_zero, List.setIfInBounds_toArray, List.set_cons_zero, List.set_cons_succ]))
                (refine wpAny_ready (rs := [14]) (by kernel_rfl) (by simp) ?_; refine AllReady.cons rfl (fun K hK => ?_) AllReady.nil; go_simp; refine hK _ _ ?_; clear hK K)
                refine wpAny_done (by kernel_rfl) ?_ _
                go_wp2
                go_meet
                refine ⟨_, rfl, ?_, ?_, ?_⟩
                · exact Nat.le_refl _
                · exact heap_new _ _ _ rfl
                · exact (Below.refl _ _).drew.alloc (Nat.le_refl _) _
      case rest =>
        obtain ⟨g, rfl, hg1, hg2, hb⟩ := hcut
        have HB4 : Hid (Below w1.heap.size w1 wc) := Lib.hid (below_then H2.out hb)
        have HO : Hid (wc.ownsRow w1.heap.size 39 5 u5 done.length (symVs done)) := Lib.hid (own_below H1.out hb)
        have HNE : Hid (∀ k, u5.ownBlock = some k → k ≠ g) := Lib.hid (fun k hk => by have := (H1.out.lt k hk).2; omega)
        have G5 : Hid (wc.heap[g]? = some (.cells (symV S) 39)) := Lib.hid (by rw [hS]; exact hg2)
        have hN : Hid (chunkFit strs c = false → readF syms strs = none) := Lib.hid (fun e => by
          have h := H3.out.1
          rw [HST2.out, e] at h
          cases hr : rG strs (n - 1) (syms.drop 16) with
          | none => rw [hF.out, hr]; rfl
          | some p => rw [hr] at h; cases h)
        have g0 : wc.cell? ⟨g, 0, none⟩ = some (.string (mkB S.name)) := cell_at G5.out rfl
        have g1 : wc.cell? ⟨g, 1, none⟩ = some (.int .u32 S.value) := cell_at G5.out rfl
        have g2 : wc.cell? ⟨g, 2, none⟩ = some (.int .u32 S.size) := cell_at G5.out rfl
        have g3 : wc.cell? ⟨g, 3, none⟩ = some (.int .i64 S.bind) := cell_at G5.out rfl
        have g4 : wc.cell? ⟨g, 4, none⟩ = some (.int .i64 S.part) := cell_at G5.out rfl
        have HGL : Hid (g < wc.heap.size ∧ w1.heap.size ≤ g) := Lib.hid ⟨heap_lt hg2, by have := H2.out.size; omega⟩
        clear hS hg2 hb hg1 H1 H2 hwb hwb1 hwp hbi hpi hbl hpl HW0 HW4 HW8 HTX
        cases ends with
        | false =>
          have hres : Hid (readF syms strs = none) := Lib.hid (hN.out (by rw [HFT.out]; rfl))
          go_wp2
          go_ret2
          exact FIN.out _ HB4.out hres.out
        | true =>
          have HFI0 : Hid (∀ w : World, Calls Tryd.prog 27 #[.agg (symV S)] w fun e w' => e = .returned (.bool (fitS S)) ∧ Below w.heap.size w w') := Lib.hid (fun w => rfits_any S HOK.out w)
          cases hfit : fitS S with
          | false =>
            have hres : Hid (readF syms strs = none) := Lib.hid (hN.out (by rw [HFT.out, hfit]; rfl))
            have HFI : Hid (∀ w : World, Calls Tryd.prog 27 #[.agg (symV S)] w fun e w' => e = .returned (.bool false) ∧ Below w.heap.size w w') := Lib.hid (by have := HFI0.out; rwa [hfit] at this)
            clear hfit HFI0
            go_wp2_with (go_at_call 27; refine (HFI.out _).mono ?_; rintro e w2 ⟨rfl, hb2⟩; replace HB4 : Hid (Below w1.heap.size w1 w2) := Lib.hid (below_then HB4.out hb2); clear hb2)
            go_ret2
            exact FIN.out _ HB4.out hres.out
          | true =>
            have HFI : Hid (∀ w : World, Calls Tryd.prog 27 #[.agg (symV S)] w fun e w' => e = .returned (.bool true) ∧ Below w.heap.size w w') := Lib.hid (by have := HFI0.out; rwa [hfit] at this)
            have HSY : Hid (∀ w : World, Calls Tryd.prog 28 #[.agg (symV S), .int .u32 at0] w fun e w' => e = .returned (.string (mkB (symB S at0))) ∧ Below w.heap.size w w') := Lib.hid (fun w => by
              obtain ⟨-, -, -, b0, b2, p0, p2⟩ := fitS_is hfit
              exact rsymbol_any S HOK.out b0 b2 p0 p2 at0 HATB.out w)
            have hres : Hid ((rG strs (n - 1) (syms.drop 16)).map (fun p => (p.1, zer16 ++ p.2)) = (rG strs (n - (k + 1)) (syms.drop (16 * (k + 1)))).map (fun p => ((done ++ [S]) ++ p.1, (b ++ symB S at0) ++ p.2))) := Lib.hid (by
              rw [H3.out.1, HST2.out, HFT.out, hfit, Bool.true_and, if_pos rfl, Option.map_map]
              congr 1
              funext t
              simp)
            obtain ⟨Y, hY⟩ : ∃ Y, Y = symB S at0 := ⟨_, rfl⟩
            rw [← hY] at HSY hres
            have hYl : Y.length = 16 := by rw [hY]; exact symB_len _ _
            have HYL := Lib.hid hYl
            clear hfit HFI0 hY
            go_upto_region 15 with (go_at_call 27; refine (HFI.out _).mono ?_; rintro e w2 ⟨rfl, hb2⟩; have HB2 := Lib.hid hb2; clear hb2)
            have hb2 := HB2.out
            have HB5 : Hid (Below w1.heap.size w1 w2) := Lib.hid (below_then HB4.out hb2)
            have HO5 : Hid (w2.ownsRow w1.heap.size 39 5 u5 done.length (symVs done)) := Lib.hid (own_below HO.out hb2)
            have G6 : Hid (w2.heap[g]? = some (.cells (symV S) 39)) := Lib.hid ((hb2.block _ HGL.out.1).trans G5.out)
            have k0 : w2.cell? ⟨g, 0, none⟩ = some (.string (mkB S.name)) := cell_at G6.out rfl
            have k1 : w2.cell? ⟨g, 1, none⟩ = some (.int .u32 S.value) := cell_at G6.out rfl
            have k2 : w2.cell? ⟨g, 2, none⟩ = some (.int .u32 S.size) := cell_at G6.out rfl
            have k3 : w2.cell? ⟨g, 3, none⟩ = some (.int .i64 S.bind) := cell_at G6.out rfl
            have k4 : w2.cell? ⟨g, 4, none⟩ = some (.int .i64 S.part) := cell_at G6.out rfl
            have HG2 : Hid (g < w2.heap.size) := Lib.hid (Nat.lt_of_lt_of_le HGL.out.1 hb2.size)
            clear hb2 HB2 HB4 HO G5 g0 g1 g2 g3 g4
            go_wp2_with (at_builtin; refine wpList_append_own _ rfl _ _ 26 rfl w1.heap.size 39 i0 _ 5 40 Tryd.underlying26 hi hz0 hz1 hz2 rfl (by decide) _ _ _ rfl (HO5.out.alloc _) ⟨w2.heap.size, 0, none⟩ 1 1 (symV S).toList rfl rfl ?c1 ?c2 ?c3 ?c4 ?c5 ?_)
            case c1 =>
              intro j u hj
              match j, hj with
              | 0, hj => simp [symV] at hj; subst hj; simp [Addr.add]
              | 1, hj => simp [symV] at hj; subst hj; simp [Addr.add]
              | 2, hj => simp [symV] at hj; subst hj; simp [Addr.add]
              | 3, hj => simp [symV] at hj; subst hj; simp [Addr.add]
              | 4, hj => simp [symV] at hj; subst hj; simp [Addr.add]
            case c2 => intro u hu; simp [symV] at hu; rcases hu with rfl | rfl | rfl | rfl | rfl <;> rfl
            case c3 => unfold maxLen; omega
            case c4 => omega
            case c5 => have := HB5.out.size; simp; omega
            intro v' w5 hown' hgrow _
            have K1 : Hid (w5.ownsRow w1.heap.size 39 5 v' (done ++ [S]).length (symVs (done ++ [S]))) := Lib.hid (by
              have h1 : symVs (done ++ [S]) = symVs done ++ (symV S).toList := by simp [symVs]
              rw [h1, List.length_append]; exact hown')
            have K2 : Hid (Below w1.heap.size w1 w5) := Lib.hid ((HB5.out.alloc (by have := HB5.out.size; omega) _).grown hgrow (by have := HB5.out.size; simp; omega) (fun k hk => (HO5.out.lt k hk).1))
            have G7 : w5.heap[g]? = some (.cells (symV S) 39) := (hgrow.block g (by have := HG2.out; simp only [heap_len]; omega) (fun e => HNE.out g e.symm rfl)).trans ((heap_old _ _ _ HG2.out).trans G6.out)
            have q0 : w5.cell? ⟨g, 0, none⟩ = some (.string (mkB S.name)) := cell_at G7 rfl
            have q1 : w5.cell? ⟨g, 1, none⟩ = some (.int .u32 S.value) := cell_at G7 rfl
            have q2 : w5.cell? ⟨g, 2, none⟩ = some (.int .u32 S.size) := cell_at G7 rfl
            have q3 : w5.cell? ⟨g, 3, none⟩ = some (.int .i64 S.bind) := cell_at G7 rfl
            have q4 : w5.cell? ⟨g, 4, none⟩ = some (.int .i64 S.part) := cell_at G7 rfl
            have happ := mkB_append
            have hms := mkB_size
            clear hown' hgrow G7 k0 k1 k2 k3 k4
            go_wp2_with (go_at_call 28; refine (HSY.out _).mono ?_; rintro e w6 ⟨rfl, hb6⟩; have L1 : Hid (w6.ownsRow w1.heap.size 39 5 v' (done ++ [S]).length (symVs (done ++ [S]))) := Lib.hid (own_below K1.out hb6); have L2 : Hid (Below w1.heap.size w1 w6) := Lib.hid (below_then K2.out hb6); clear hb6)
            clear happ hms
            go_roundw
            case rel => exact ⟨done ++ [S], b ++ Y, k + 1, rfl, by go_num, L1, L2, Lib.hid ⟨hres.out, by have := H3.out.2.1; rw [List.length_append]; simp; omega, Hk.out, by have := H3.out.2.2.2; have := HYL.out; rw [List.length_append]; omega⟩⟩
            case measure => have := Hk.out; simp [intOf]; omega
    · have hkn : k = n := by have := H3.out.2.2.1; omega
      have hki : (n : Int) ≤ k := by omega
      have hg : Hid (rG strs (n - 1) (syms.drop 16) = some (done, b.drop 16) ∧ zer16 ++ b.drop 16 = b) := Lib.hid (by
        have h := H3.out.1
        rw [show n - k = 0 by omega] at h
        cases hr : rG strs (n - 1) (syms.drop 16) with
        | none => rw [hr] at h; cases h
        | some p =>
          rw [hr] at h
          obtain ⟨p1, p2⟩ := p
          simp only [rG, Option.map_some, List.append_nil, Option.some.injEq, Prod.mk.injEq] at h
          obtain ⟨rfl, rfl⟩ := h
          exact ⟨rfl, rfl⟩)
      by_cases he : b = syms
      · have hres : Hid (readF syms strs = some done) := Lib.hid (by rw [hF.out, hg.out.1, Option.bind_some, if_pos (by rw [hg.out.2]; exact he)])
        subst he
        clear hk hkn hg H3
        go_wp2
        go_ret2
        exact ⟨_, by rw [hres.out]; rfl, by rw [hres.out]; exact symsV_of_own H1.out, HB0.out.trans (H2.out.mono (Nat.le_of_lt HW.out))⟩
      · have hres : Hid (readF syms strs = none) := Lib.hid (by rw [hF.out, hg.out.1, Option.bind_some, if_neg (by rw [hg.out.2]; exact he)])
        have hne2 : ((mkB b).toList == (mkB syms).toList) = false := by rw [bytes_toList, bytes_toList]; exact beq_eq_false_iff_ne.2 he
        have hne1 : mkB b ≠ mkB syms := fun e => he (mkB_inj.1 e)
        clear he hk hkn hg H3
        go_wp2
        go_ret2
        exact FIN.out _ H2.out hres.out
end Go.Proofs.YtlifdfkconklfaaDoor
