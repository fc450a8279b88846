/-
  Texts in one: FTuA FTuB FTuC.
-/
import Derived.Test.YtlpgandflkabcaaGreatDoorFTtA
import Derived.Test.YtlpgandflkabcaaGreatDoorFTrX
import Derived.Test.YtlpgandflkabcaaGreatDoorFTrD
import Derived.Test.YtlpgandflkabcaaGreatDoorFTrR
import Derived.Test.YtlpgandflkabcaaGreatDoorFTtI
import Derived.Test.YtlpgandflkabcaaGreatDoorFTtH
import Derived.Test.YtlpgandflkabcaaGreatDoorFTtC
import Derived.Deep.RegionHeld
namespace Go.Proofs.YtlpgandflkabcaaGreatDoor
open Go Go.RowKit Go.Shelf
set_option linter.unusedVariables false
set_option linter.unusedSimpArgs false

theorem find_none0 {l : List NodeD} {p : List UInt8} (h : hasS l p = false) : findE l p ≠ 0 := by
  unfold findE
  split
  · rw [h, if_neg (by decide)]
    rcases missE_ne l p with e | e <;> rw [e] <;> decide
  · decide
set_option maxRecDepth 100000 in
theorem rfind_bad (p : List UInt8) (hp : pathB p = false) (hpl : p.length ≤ 1000000) (v : Value) (nx : Int) (W : World) :
    Calls Tryz.prog 37 #[.agg (keepV v nx), .string (mkB p)] W fun e w' => e = .returned (.tuple #[.agg (nodeV noneN), .int .i64 22]) ∧ Below W.heap.size W w' := by
  have HP := Lib.hid (fun w => rpath_any p w hpl)
  have HPB := Lib.hid hp
  clear hp hpl
  go_enter Tryz.func37, Tryz.ntmps37
  have HZ : Hid ((W.alloc (.cells (keepV v nx) 24)).alloc (.cells (nodeV noneN) 28) |>.heap[W.heap.size + 1]? = some (.cells (nodeV noneN) 28)) := Lib.hid (heap_new _ _ _ (by simp only [heap_len]))
  go_wp2_with (first
    | (go_at_call 19; refine (HP.out _).mono ?_; rintro e w1 ⟨rfl, rfl⟩; rw [HPB.out])
    | (refine wpl_store 28 ?_; intro ee he; refine wpList_store_row he _ _ _ ee (W.heap.size + 1) (nodeV noneN) rfl rfl 28 (nodeV noneN) HZ.out (node_size _) rfl (node_one _) ?_))
  refine bodyPost_ret (res_cell_tmp rfl rfl (row_same HZ.out) (by kernel_rfl) (node_size _)) rfl ?_
  exact ⟨rfl, below_row (((Below.refl _ _).alloc (Nat.le_refl _) _).alloc (by simp only [heap_len]; omega) _) _ _ (by omega)⟩
set_option maxRecDepth 100000 in
set_option maxHeartbeats 8000000 in
theorem rfind_path (ns : List NodeD) (hr : RiseS ns) (hlen : ns.length ≤ 1000) (p : List UInt8) (hp : pathB p = true) (v : Value) (nx : Int) (W : World) (hN : NodesV W v ns) :
    Calls Tryz.prog 37 #[.agg (keepV v nx), .string (mkB p)] W fun e w' => e = .returned (.tuple #[.agg (nodeV (foundN ns p)), .int .i64 (findE ns p)]) ∧ Below W.heap.size W w' := by
  obtain ⟨q, c, rfl, hN0⟩ := hN
  have hN : NodesV W (.slice q ns.length c) ns := ⟨q, c, rfl, hN0⟩
  have hpl := path_len hp
  have HP := Lib.hid (fun w => rpath_any p w (by omega))
  have HPB := Lib.hid hp
  have HPL : Hid (∀ (s : List UInt8) (W' : World), Below W.heap.size W W' → Calls Tryz.prog 20 #[.agg (keepV (.slice q ns.length c) nx), .string (mkB s)] W' fun e w' => e = .returned (.int .i64 (placeS ns s)) ∧ Below W'.heap.size W' w') := Lib.hid (fun s W' hb => place_any ns hlen s _ nx W' (hN.below hb))
  obtain ⟨W0, hW0⟩ : ∃ W0, W0 = (W.alloc (.cells (keepV (.slice q ns.length c) nx) 24)).alloc (.cells #[.string ⟨#[]⟩, .bool false, .string ⟨#[]⟩, .int .i64 0] 28) := ⟨_, rfl⟩
  have HF : Hid (∀ w', Below W0.heap.size W0 w' → Below W.heap.size W w' ∧ w'.heap[W.heap.size]? = some (.cells (keepV (.slice q ns.length c) nx) 24) ∧ w'.heap[W.heap.size + 1]? = some (.cells (nodeV noneN) 28)) := Lib.hid (fun w' h => by
    rw [hW0] at h
    refine ⟨(((Below.refl _ _).alloc (Nat.le_refl _) _).alloc (by simp only [heap_len]; omega) _).trans (h.mono (by simp only [heap_len]; omega)), ?_, ?_⟩
    · rw [h.block _ (by simp only [heap_len]; omega), heap_old _ _ _ (by simp only [heap_len]; omega)]; exact heap_new _ _ _ rfl
    · rw [h.block _ (by simp only [heap_len]; omega)]; exact heap_new _ _ _ (by simp only [heap_len]))
  have HNV := Lib.hid hN
  have hli : (ns.length : Int) ≤ 1000 := by omega
  cases hh : hasS ns p
  · obtain ⟨P, hP, hpe, hpl2⟩ := path_parts hp
    have hpp : partsB p = P := by rw [hpe]; exact parts_rootL hP
    have hf0 : foundN ns p = noneN := by rw [foundN, if_neg (find_none0 hh)]
    have HME : Hid (findE ns p = stE ns P) := Lib.hid (by rw [findE, if_pos hp, hh, if_neg (by decide), missE, hpp, stE, ← hpe, hh, if_neg (by decide)])
    have HDO : Hid (∀ (M : List (List UInt8)) (n : List UInt8) (w : World), (∀ q ∈ M ++ [n], NameOk q) → (rootL (M ++ [n])).length ≤ 255 → Calls Tryz.prog 21 #[.string (mkB (rootL (M ++ [n])))] w fun e w' => e = .returned (.string (mkB (rootL M))) ∧ w' = w) := Lib.hid (fun M n w hM hl => by
      have := dirOf_any (rootL (M ++ [n])) (path_rootL hM hl) w
      rw [dirP, parts_rootL hM, List.dropLast_concat] at this
      exact this)
    rw [hf0]
    generalize findE ns p = fe at HME ⊢
    have HPO := Lib.hid (And.intro hP (hpe ▸ hpl2))
    have HP0 := Lib.hid (HPL.out p)
    have hps := placeS_none hh
    rw [hps] at HP0
    have HHF := Lib.hid hh
    have HR := Lib.hid hr
    have HPE := Lib.hid hpe
    clear hN hN0 hr hlen hp hpl hpp hpl2 hP hh hps hf0 hpe
    go_enter Tryz.func37, Tryz.ntmps37
    go_upto_region 1 with fail
    rw [← hW0]
    clear hW0
    have s0 := cell_at (o := 0) (HF.out W0 (Below.refl _ _)).2.1 rfl
    have s1 := cell_at (o := 1) (HF.out W0 (Below.refl _ _)).2.1 rfl
    go_upto_region 6 with (first
      | (go_at_call 19; refine (HP.out _).mono ?_; rintro e w1 ⟨rfl, hw1⟩; obtain rfl := hw1.symm; rw [HPB.out])
      | (go_at_call 20; refine (HP0.out _ (HF.out _ (Below.refl _ _)).1).mono ?_; rintro e w1 ⟨rfl, hb1⟩; have HB1 := Lib.hid hb1; clear hb1))
    clear s0 s1
    go_loopw [1, 6] (fun pv iv wr => ∃ L : List (List UInt8), pv = .string (mkB (rootL L)) ∧ Hid ((∀ q ∈ L, NameOk q) ∧ (rootL L).length ≤ 255 ∧ fe = stE ns L ∧ hasS ns (rootL L) = false) ∧ Hid (Below W0.heap.size W0 wr)) (fun pv iv wr => strLen pv)
    case atStart => exact ⟨P, by rw [HPE.out], Lib.hid ⟨HPO.out.1, HPO.out.2, HME.out, by rw [← HPE.out]; exact HHF.out⟩, HB1⟩
    case round =>
      obtain ⟨L, rfl, H3, HB⟩ := hrel
      have HZ := Lib.hid (HF.out _ HB.out).2.2
      have s0 := cell_at (o := 0) (HF.out _ HB.out).2.1 rfl
      have s1 := cell_at (o := 1) (HF.out _ HB.out).2.1 rfl
      have h1 : ((mkB (rootL L)).toList == [47]) = L.isEmpty := by rw [mkB_toList]; exact rootL_one H3.out.1
      cases he : L.isEmpty
      · rw [he] at h1
        obtain ⟨M, n, rfl⟩ : ∃ M n, L = M ++ [n] := ⟨L.dropLast, L.getLast (fun e => by simp [e] at he), (List.dropLast_concat_getLast _).symm⟩
        have HST := Lib.hid (stE_snoc H3.out.2.2.2)
        have HLT := Lib.hid (rootL_shorter M (H3.out.1 n (by simp)).ne)
        have HM : Hid (∀ q ∈ M, NameOk q) := Lib.hid (fun q hq => H3.out.1 q (by simp [hq]))
        have HDX := Lib.hid (HDO.out M n wr H3.out.1 H3.out.2.1)
        have HPX := Lib.hid (HPL.out (rootL M) wr (HF.out _ HB.out).1)
        clear he
        cases hf : hasS ns (rootL M)
        · have HNF := Lib.hid hf
          rw [placeS_none hf] at HPX
          clear hf
          go_wp2_with (first
            | (go_at_call 21; refine HDX.out.mono ?_; rintro e w5 ⟨rfl, rfl⟩)
            | (go_at_call 20; refine HPX.out.mono ?_; rintro e w6 ⟨rfl, hb6⟩; have HB6 := Lib.hid (HB.out.trans (hb6.mono HB.out.size)); clear hb6))
          go_roundw
          case rel => exact ⟨M, rfl, Lib.hid ⟨HM.out, by have := HLT.out; have := H3.out.2.1; omega, H3.out.2.2.1.trans HST.out, HNF.out⟩, HB6⟩
          case measure => have := HLT.out; simp only [strLen, mkB_size]; exact this
        · obtain ⟨hk2, hkp⟩ := (hasS_at HR.out).1 hf
          obtain ⟨k, hkk⟩ : ∃ k, lowS ns (rootL M) = k := ⟨_, rfl⟩
          have hk3 : k < ns.length := by rw [← hkk]; exact hk2
          have HSA := Lib.hid (stE_at hk3 hf hkk)
          rw [placeS_low HR.out hf, hkk] at HPX
          obtain ⟨q', c', hqe, hNx⟩ := HNV.out
          cases hqe
          obtain ⟨b, off, rfl, hrow⟩ := hNx (nonil hk3)
          have HC1 : Hid (∀ W', Below W0.heap.size W0 W' → W'.cell? ⟨b, off + k * 4 + 1, none⟩ = some (.bool ns[k].dir)) := Lib.hid (fun W' hb => (hrow.below (HF.out _ hb).1).c1 k hk3)
          have hki : (k : Int) < ns.length := by omega
          clear hk2 hkp hkk hf hrow
          cases hd : ns[k].dir
          · rw [hd] at HSA HC1
            have HFE : Hid (fe = 20) := Lib.hid (by rw [H3.out.2.2.1, HST.out, HSA.out]; rfl)
            clear hd
            go_wp2_with (first
              | (go_at_call 21; refine HDX.out.mono ?_; rintro e w5 ⟨rfl, rfl⟩)
              | (go_at_call 20; refine HPX.out.mono ?_; rintro e w6 ⟨rfl, hb6⟩; have HB6 := Lib.hid (HB.out.trans (hb6.mono HB.out.size)); have c1 := HC1.out _ HB6.out; have u0 := cell_at (o := 0) (HF.out _ HB6.out).2.1 rfl; have HZ6 := Lib.hid (HF.out _ HB6.out).2.2; clear hb6)
              | (refine wpl_store 28 ?_; intro ee he; refine wpList_store_row he _ _ _ ee (W.heap.size + 1) (nodeV noneN) rfl rfl 28 (nodeV noneN) HZ6.out (node_size _) rfl (node_one _) ?_))
            refine bodyPost_ret (res_cell_tmp rfl rfl (row_same HZ6.out) (by kernel_rfl) (node_size _)) rfl ?_
            exact ⟨by rw [HFE.out]; rfl, below_row (HF.out _ HB6.out).1 _ _ (by omega)⟩
          · rw [hd] at HSA HC1
            have HFE : Hid (fe = 2) := Lib.hid (by rw [H3.out.2.2.1, HST.out, HSA.out]; rfl)
            clear hd
            go_wp2_with (first
              | (go_at_call 21; refine HDX.out.mono ?_; rintro e w5 ⟨rfl, rfl⟩)
              | (go_at_call 20; refine HPX.out.mono ?_; rintro e w6 ⟨rfl, hb6⟩; have HB6 := Lib.hid (HB.out.trans (hb6.mono HB.out.size)); have c1 := HC1.out _ HB6.out; have u0 := cell_at (o := 0) (HF.out _ HB6.out).2.1 rfl; have HZ6 := Lib.hid (HF.out _ HB6.out).2.2; clear hb6)
              | (refine wpl_store 28 ?_; intro ee he; refine wpList_store_row he _ _ _ ee (W.heap.size + 1) (nodeV noneN) rfl rfl 28 (nodeV noneN) HZ6.out (node_size _) rfl (node_one _) ?_))
            refine bodyPost_ret (res_cell_tmp rfl rfl (row_same HZ6.out) (by kernel_rfl) (node_size _)) rfl ?_
            exact ⟨by rw [HFE.out]; rfl, below_row (HF.out _ HB6.out).1 _ _ (by omega)⟩
      · rw [he] at h1
        obtain rfl : L = [] := by simpa using he
        have HFE : Hid (fe = 2) := Lib.hid (by rw [H3.out.2.2.1, stE_nil H3.out.2.2.2])
        clear he
        go_wp2_with (refine wpl_store 28 ?_; intro ee he; refine wpList_store_row he _ _ _ ee (W.heap.size + 1) (nodeV noneN) rfl rfl 28 (nodeV noneN) HZ.out (node_size _) rfl (node_one _) ?_)
        refine bodyPost_ret (res_cell_tmp rfl rfl (row_same HZ.out) (by kernel_rfl) (node_size _)) rfl ?_
        exact ⟨by rw [HFE.out]; rfl, below_row (HF.out _ HB.out).1 _ _ (by omega)⟩
  · obtain ⟨hk2, hkp⟩ := (hasS_at hr).1 hh
    have hfe := findE_hit hp hh
    rw [foundN_at hr hfe hk2 hkp, hfe]
    have HPX := Lib.hid (HPL.out p)
    rw [placeS_low hr hh] at HPX
    obtain ⟨k, hkk⟩ : ∃ k, lowS ns p = k := ⟨_, rfl⟩
    simp only [hkk] at hk2 HPX ⊢
    obtain ⟨b, off, rfl, hrow⟩ := hN0 (nonil hk2)
    have HC : Hid (∀ W', Below W.heap.size W W' → W'.cell? ⟨b, off + k * 4, none⟩ = some (.string (mkB ns[k].path)) ∧ W'.cell? ⟨b, off + k * 4 + 1, none⟩ = some (.bool ns[k].dir) ∧ W'.cell? ⟨b, off + k * 4 + 2, none⟩ = some (.string (mkB ns[k].data)) ∧ W'.cell? ⟨b, off + k * 4 + 3, none⟩ = some (.int .i64 ns[k].id)) := Lib.hid (fun W' hb => ⟨(hrow.below hb).c0 k hk2, (hrow.below hb).c1 k hk2, (hrow.below hb).c2 k hk2, (hrow.below hb).c3 k hk2⟩)
    have hki : (k : Int) < ns.length := by omega
    have hki0 : (0 : Int) ≤ (k : Int) := by omega
    clear hN hN0 hr hlen hp hpl hh hfe hrow
    obtain ⟨x, hx⟩ : ∃ x, x = ns[k] := ⟨_, rfl⟩
    rw [← hx] at HC ⊢
    clear hx hkp hkk
    go_enter Tryz.func37, Tryz.ntmps37
    go_upto_region 1 with fail
    rw [← hW0]
    clear hW0
    have s0 := cell_at (o := 0) (HF.out W0 (Below.refl _ _)).2.1 rfl
    have s1 := cell_at (o := 1) (HF.out W0 (Below.refl _ _)).2.1 rfl
    go_wp2_with (first
      | (go_at_call 19; refine (HP.out _).mono ?_; rintro e w1 ⟨rfl, hw1⟩; obtain rfl := hw1.symm; rw [HPB.out])
      | (go_at_call 20; refine (HPX.out _ (HF.out _ (Below.refl _ _)).1).mono ?_; rintro e w1 ⟨rfl, hb1⟩; have HB1 := Lib.hid hb1; have u0 := cell_at (o := 0) (HF.out _ hb1).2.1 rfl; have HZ1 := Lib.hid (HF.out _ hb1).2.2; obtain ⟨c0, c1, c2, c3⟩ := HC.out _ (HF.out _ hb1).1; clear hb1)
      | (refine wpl_store 28 ?_; intro ee he; refine wpList_store_row he _ _ _ ee (W.heap.size + 1) (nodeV x) rfl rfl 28 (nodeV noneN) HZ1.out (node_size _) rfl (node_one _) ?_))
    refine bodyPost_ret (res_cell_tmp rfl rfl (row_same HZ1.out) (by kernel_rfl) (node_size _)) rfl ?_
    exact ⟨rfl, below_row (HF.out _ HB1.out).1 _ _ (by omega)⟩
theorem rfind_any (ns : List NodeD) (hr : RiseS ns) (hlen : ns.length ≤ 1000) (p : List UInt8) (hpl : p.length ≤ 1000000) (v : Value) (nx : Int) (W : World) (hN : NodesV W v ns) :
    Calls Tryz.prog 37 #[.agg (keepV v nx), .string (mkB p)] W fun e w' => e = .returned (.tuple #[.agg (nodeV (foundN ns p)), .int .i64 (findE ns p)]) ∧ Below W.heap.size W w' := by
  cases hp : pathB p
  · have h1 : findE ns p = 22 := by rw [findE, hp]; rfl
    rw [foundN, h1, if_neg (by decide)]
    exact rfind_bad p hp hpl v nx W
  · exact rfind_path ns hr hlen p hp v nx W hN
set_option maxRecDepth 100000 in
set_option maxHeartbeats 8000000 in
theorem rdir_any (ns : List NodeD) (hr : RiseS ns) (hlen : ns.length ≤ 1000) (p : List UInt8) (hp : pathB p = true) (v : Value) (nx : Int) (W : World) (hN : NodesV W v ns) :
    Calls Tryz.prog 35 #[.agg (keepV v nx), .string (mkB p)] W fun e w' => e = .returned (.int .i64 (parentE ns p)) ∧ Below W.heap.size W w' := by
  obtain ⟨q, c, rfl, hN0⟩ := hN
  have hN : NodesV W (.slice q ns.length c) ns := ⟨q, c, rfl, hN0⟩
  have hd := dirP_path hp
  have hl := path_len hp
  have HDO := Lib.hid (fun w => dirOf_any p hp w)
  have HFI : Hid (∀ W' : World, Below W.heap.size W W' → Calls Tryz.prog 37 #[.agg (keepV (.slice q ns.length c) nx), .string (mkB (dirP p))] W' fun e w' => e = .returned (.tuple #[.agg (nodeV (foundN ns (dirP p))), .int .i64 (findE ns (dirP p))]) ∧ Below W'.heap.size W' w') := Lib.hid (fun W' hb => rfind_any ns hr hlen _ (by omega) _ nx W' (hN.below hb))
  have HE : Hid (parentE ns p = if findE ns (dirP p) = 0 then (if (foundN ns (dirP p)).dir = true then 0 else 20) else findE ns (dirP p)) := Lib.hid rfl
  obtain ⟨W0, hW0⟩ : ∃ W0, W0 = W.alloc (.cells (keepV (.slice q ns.length c) nx) 24) := ⟨_, rfl⟩
  have HF : Hid (∀ w', Below W0.heap.size W0 w' → Below W.heap.size W w' ∧ w'.heap[W.heap.size]? = some (.cells (keepV (.slice q ns.length c) nx) 24)) := Lib.hid (fun w' h => by
    rw [hW0] at h
    exact ⟨((Below.refl _ _).alloc (Nat.le_refl _) _).trans (h.mono (by simp only [heap_len]; omega)), (h.block _ (by simp only [heap_len]; omega)).trans (heap_new _ _ _ rfl)⟩)
  have HMK : Hid (∀ w', Below W0.heap.size W0 w' → Below W0.heap.size W0 w' ∧ w'.cell? ⟨W.heap.size, 0, none⟩ = some (.slice q ns.length c) ∧ w'.cell? ⟨W.heap.size, 1, none⟩ = some (.int .i64 nx)) := Lib.hid (fun w' h => ⟨h, cell_at (o := 0) (HF.out w' h).2 rfl, cell_at (o := 1) (HF.out w' h).2 rfl⟩)
  have s0 := (HMK.out W0 (Below.refl _ _)).2.1
  have s1 := (HMK.out W0 (Below.refl _ _)).2.2
  clear hN hN0 hr hlen hp hd hl
  generalize parentE ns p = pe at HE ⊢
  generalize foundN ns (dirP p) = x at HFI HE
  generalize findE ns (dirP p) = fe at HFI HE
  by_cases hfe : fe = 0
  · subst hfe
    cases hxd : x.dir
    · have HE2 : Hid (pe = 20) := Lib.hid (by rw [HE.out, if_pos rfl, hxd]; rfl)
      clear HE
      go_enter Tryz.func35, Tryz.ntmps35
      go_upto_region 1 with fail
      rw [← hW0]
      clear hW0
      go_region_held (fun w' => Below W0.heap.size W0 w' ∧ w'.cell? ⟨W.heap.size, 0, none⟩ = some (.slice q ns.length c) ∧ w'.cell? ⟨W.heap.size, 1, none⟩ = some (.int .i64 nx)) ((refine HMK.out _ ?_; (first | assumption | exact Below.trans (by assumption) (Below.mono (by assumption) (Below.size (by assumption))) | (refine below_realloc ?_ ?_ ?_; assumption; omega; omega) | ((repeat' (first | assumption | exact Below.refl _ _ | refine Below.drew ?_ | refine Below.setCell ?_ ?_ _ | refine Below.alloc ?_ ?_ _)); all_goals (first | assumption | omega | (simp only [heap_len]; done) | (simp only [heap_len]; omega) | (simp <;> omega))))))
        (first
          | (go_at_call 21; refine (HDO.out _).mono ?_; rintro e w1 ⟨rfl, hw1⟩; obtain rfl := hw1.symm)
          | (go_at_call 37; refine (HFI.out _ (HF.out _ (And.left (by assumption))).1).mono ?_; rintro e w2 ⟨rfl, hb2⟩; rw [show nodeV x = #[.string (mkB x.path), .bool false, .string (mkB x.data), .int .i64 x.id] by rw [nodeV, hxd]]; have s1 : Below W0.heap.size W0 w2 := below_then (And.left (by assumption)) hb2; have z1 := s1.size; have q1 := (bcell hb2).1; have f1 := (bcell hb2).2; have y1 := hb2.size; (try simp at y1)))
      all_goals (go_wp2; go_ret; exact ⟨by rw [HE2.out]; rfl, (HF.out _ (by (first | assumption | exact Below.trans (by assumption) (Below.mono (by assumption) (Below.size (by assumption))) | (refine below_realloc ?_ ?_ ?_; assumption; omega; omega) | ((repeat' (first | assumption | exact Below.refl _ _ | refine Below.drew ?_ | refine Below.setCell ?_ ?_ _ | refine Below.alloc ?_ ?_ _)); all_goals (first | assumption | omega | (simp only [heap_len]; done) | (simp only [heap_len]; omega) | (simp <;> omega)))))).1⟩)
    · have HE2 : Hid (pe = 0) := Lib.hid (by rw [HE.out, if_pos rfl, hxd]; rfl)
      clear HE
      go_enter Tryz.func35, Tryz.ntmps35
      go_upto_region 1 with fail
      rw [← hW0]
      clear hW0
      go_region_held (fun w' => Below W0.heap.size W0 w' ∧ w'.cell? ⟨W.heap.size, 0, none⟩ = some (.slice q ns.length c) ∧ w'.cell? ⟨W.heap.size, 1, none⟩ = some (.int .i64 nx)) ((refine HMK.out _ ?_; (first | assumption | exact Below.trans (by assumption) (Below.mono (by assumption) (Below.size (by assumption))) | (refine below_realloc ?_ ?_ ?_; assumption; omega; omega) | ((repeat' (first | assumption | exact Below.refl _ _ | refine Below.drew ?_ | refine Below.setCell ?_ ?_ _ | refine Below.alloc ?_ ?_ _)); all_goals (first | assumption | omega | (simp only [heap_len]; done) | (simp only [heap_len]; omega) | (simp <;> omega))))))
        (first
          | (go_at_call 21; refine (HDO.out _).mono ?_; rintro e w1 ⟨rfl, hw1⟩; obtain rfl := hw1.symm)
          | (go_at_call 37; refine (HFI.out _ (HF.out _ (And.left (by assumption))).1).mono ?_; rintro e w2 ⟨rfl, hb2⟩; rw [show nodeV x = #[.string (mkB x.path), .bool true, .string (mkB x.data), .int .i64 x.id] by rw [nodeV, hxd]]; have s1 : Below W0.heap.size W0 w2 := below_then (And.left (by assumption)) hb2; have z1 := s1.size; have q1 := (bcell hb2).1; have f1 := (bcell hb2).2; have y1 := hb2.size; (try simp at y1)))
      all_goals (go_wp2; go_ret; exact ⟨by rw [HE2.out]; rfl, (HF.out _ (by (first | assumption | exact Below.trans (by assumption) (Below.mono (by assumption) (Below.size (by assumption))) | (refine below_realloc ?_ ?_ ?_; assumption; omega; omega) | ((repeat' (first | assumption | exact Below.refl _ _ | refine Below.drew ?_ | refine Below.setCell ?_ ?_ _ | refine Below.alloc ?_ ?_ _)); all_goals (first | assumption | omega | (simp only [heap_len]; done) | (simp only [heap_len]; omega) | (simp <;> omega)))))).1⟩)
  · have HE2 : Hid (pe = fe) := Lib.hid (by rw [HE.out, if_neg hfe])
    clear HE
    go_enter Tryz.func35, Tryz.ntmps35
    go_upto_region 1 with fail
    rw [← hW0]
    clear hW0
    go_region_held (fun w' => Below W0.heap.size W0 w' ∧ w'.cell? ⟨W.heap.size, 0, none⟩ = some (.slice q ns.length c) ∧ w'.cell? ⟨W.heap.size, 1, none⟩ = some (.int .i64 nx)) ((refine HMK.out _ ?_; (first | assumption | exact Below.trans (by assumption) (Below.mono (by assumption) (Below.size (by assumption))) | (refine below_realloc ?_ ?_ ?_; assumption; omega; omega) | ((repeat' (first | assumption | exact Below.refl _ _ | refine Below.drew ?_ | refine Below.setCell ?_ ?_ _ | refine Below.alloc ?_ ?_ _)); all_goals (first | assumption | omega | (simp only [heap_len]; done) | (simp only [heap_len]; omega) | (simp <;> omega))))))
      (first
        | (go_at_call 21; refine (HDO.out _).mono ?_; rintro e w1 ⟨rfl, hw1⟩; obtain rfl := hw1.symm)
        | (go_at_call 37; refine (HFI.out _ (HF.out _ (And.left (by assumption))).1).mono ?_; rintro e w2 ⟨rfl, hb2⟩; have s1 : Below W0.heap.size W0 w2 := below_then (And.left (by assumption)) hb2; have z1 := s1.size; have q1 := (bcell hb2).1; have f1 := (bcell hb2).2; have y1 := hb2.size; (try simp at y1)))
    all_goals (go_wp2; go_ret; exact ⟨by rw [HE2.out]; rfl, (HF.out _ (by (first | assumption | exact Below.trans (by assumption) (Below.mono (by assumption) (Below.size (by assumption))) | (refine below_realloc ?_ ?_ ?_; assumption; omega; omega) | ((repeat' (first | assumption | exact Below.refl _ _ | refine Below.drew ?_ | refine Below.setCell ?_ ?_ _ | refine Below.alloc ?_ ?_ _)); all_goals (first | assumption | omega | (simp only [heap_len]; done) | (simp only [heap_len]; omega) | (simp <;> omega)))))).1⟩)
end Go.Proofs.YtlpgandflkabcaaGreatDoor
namespace Go.Proofs.YtlpgandflkabcaaGreatDoor
open Go Go.RowKit Go.Shelf
set_option linter.unusedVariables false
set_option linter.unusedSimpArgs false

/-- Below, as the document tells it. -/
def belowD (s p : List UInt8) : Bool := if p = [47] then !(s == [47]) else decide (p.length < s.length) && (s.take p.length == p) && (s[p.length]? == some 47)
theorem belowD_eq {s p : List UInt8} (hs : pathB s = true) (hp : pathB p = true) : belowD s p = belowQ s p := by
  obtain ⟨L, hL, rfl, _⟩ := path_parts hp
  obtain ⟨M, hM, rfl, _⟩ := path_parts hs
  rw [Bool.eq_iff_iff, below_parts hL hM]
  unfold belowD
  by_cases hL0 : L = []
  · subst hL0
    rw [if_pos (show rootL [] = [47] from rfl)]
    have h1 : (rootL M == [47]) = true ↔ M = [] := by rw [beq_iff_eq]; exact rootL_slash hM
    cases hb : (rootL M == [47])
    · have : M ≠ [] := fun e => by rw [h1.2 e] at hb; cases hb
      exact ⟨fun _ => ⟨List.nil_prefix, fun e => this e.symm⟩, fun _ => rfl⟩
    · have := h1.1 hb
      exact ⟨fun h => (by cases h), fun h => absurd this.symm h.2⟩
  · rw [if_neg (fun e => hL0 ((rootL_slash hL).1 e)), rootL_of hL0]
    have key := inner_prefix hL hM
    constructor
    · intro h
      simp only [Bool.and_eq_true, decide_eq_true_eq, beq_iff_eq] at h
      obtain ⟨⟨h1, h2⟩, h3⟩ := h
      have hM0 : M ≠ [] := by
        rintro rfl
        have : 0 < (joinL L).length := by
          match L, hL0 with
          | q :: L, _ => rw [joinL_cons]; simp
        have e0 : (rootL ([] : List (List UInt8))).length = 1 := rfl
        omega
      rw [rootL_of hM0] at h1 h2 h3
      refine key.1 ⟨(joinL M).drop ((joinL L).length + 1), ?_⟩
      have h4 : (joinL M)[(joinL L).length]'h1 = 47 := by
        rw [List.getElem?_eq_getElem h1] at h3
        exact Option.some.inj h3
      rw [innerL]
      conv => rhs; rw [← List.take_append_drop (joinL L).length (joinL M), h2, List.drop_eq_getElem_cons h1, h4]
      simp
    · rintro h
      have hM0 : M ≠ [] := by
        rintro rfl
        exact h.2 (List.prefix_nil.1 h.1)
      rw [rootL_of hM0]
      obtain ⟨t, ht⟩ := key.2 h
      rw [← ht, innerL]
      simp
set_option maxRecDepth 100000 in
theorem rbelow_any (s p : List UInt8) (hs : pathB s = true) (hp : pathB p = true) (w : World) :
    Calls Tryz.prog 40 #[.string (mkB s), .string (mkB p)] w fun e w' => e = .returned (.bool (belowQ s p)) ∧ w' = w := by
  rw [← belowD_eq hs hp]
  have hsl := path_len hs
  have hpl := path_len hp
  have hz1 := mkB_size s
  have hz2 := mkB_size p
  have h47 : ((mkB p).toList == [47]) = (p == [47]) := by rw [mkB_toList]
  have h47s : ((mkB s).toList == [47]) = (s == [47]) := by rw [mkB_toList]
  have HD : Hid (belowD s p = if p = [47] then !(s == [47]) else decide (p.length < s.length) && (s.take p.length == p) && (s[p.length]? == some 47)) := Lib.hid rfl
  have hsi : (s.length : Int) ≤ 255 := by omega
  have hpi : (p.length : Int) ≤ 255 := by omega
  clear hs hp
  generalize belowD s p = r at HD ⊢
  cases e1 : (p == [47])
  · rw [e1] at h47
    have HD2 : Hid (r = (decide (p.length < s.length) && (s.take p.length == p) && (s[p.length]? == some 47))) := Lib.hid (HD.out.trans (if_neg (beq_eq_false_iff_ne.1 e1)))
    clear e1 HD h47s
    by_cases hl : p.length < s.length
    · have hli : (p.length : Int) < s.length := by omega
      have hli2 : (p.length : Int) ≤ s.length := by omega
      have hx1 : (mkB s).extract 0 p.length = mkB (s.take p.length) := mkB_take _ _
      have hx2 : ((mkB (s.take p.length)).toList == (mkB p).toList) = (s.take p.length == p) := by rw [mkB_toList, mkB_toList]
      have hjz : p.length < (mkB s).size := by rw [hz1]; exact hl
      obtain ⟨v, hv⟩ : ∃ v : Nat, ((mkB s)[p.length]'hjz).toNat = v := ⟨_, rfl⟩
      have HV : Hid ((s[p.length]? == some 47) = decide (v = 47)) := Lib.hid (by
        have h1 : (s[p.length]'hl).toNat = v := hv
        rw [List.getElem?_eq_getElem hl, Bool.eq_iff_iff, beq_iff_eq, decide_eq_true_iff, Option.some.injEq]
        exact ⟨fun e => by rw [← h1, e]; rfl, fun e => UInt8.toNat_inj.1 (h1.trans e)⟩)
      cases e2 : (s.take p.length == p)
      · have HR : Hid (r = false) := Lib.hid (by rw [HD2.out, e2]; simp)
        rw [e2] at hx2
        clear e2 HD2
        go_enter Tryz.func40, Tryz.ntmps40
        go_wp2
        go_ret
        exact ⟨by rw [HR.out]; rfl, rfl⟩
      · by_cases h9 : v = 47
        · have HR : Hid (r = true) := Lib.hid (by rw [HD2.out, e2, HV.out, decide_eq_true h9, decide_eq_true hl]; rfl)
          rw [e2] at hx2
          subst h9
          clear e2 HD2 HV
          go_enter Tryz.func40, Tryz.ntmps40
          go_wp2
          go_ret
          exact ⟨by rw [HR.out]; rfl, rfl⟩
        · have HR : Hid (r = false) := Lib.hid (by rw [HD2.out, HV.out, decide_eq_false h9]; simp)
          have c47 : ((v : Int) == 47) = false := beq_eq_false_iff_ne.2 (by omega)
          rw [e2] at hx2
          clear e2 HD2 HV
          go_enter Tryz.func40, Tryz.ntmps40
          go_wp2
          go_ret
          exact ⟨by rw [HR.out]; rfl, rfl⟩
    · have hli : ¬ (p.length : Int) < s.length := by omega
      have HR : Hid (r = false) := Lib.hid (by rw [HD2.out, decide_eq_false hl]; rfl)
      clear HD2
      go_enter Tryz.func40, Tryz.ntmps40
      go_wp2
      go_ret
      exact ⟨by rw [HR.out]; rfl, rfl⟩
  · rw [e1] at h47
    have HD2 : Hid (r = !(s == [47])) := Lib.hid (HD.out.trans (if_pos (beq_iff_eq.1 e1)))
    clear e1 HD
    generalize (s == [47]) = b at h47s HD2
    cases b
    · go_enter Tryz.func40, Tryz.ntmps40
      go_wp2
      go_ret
      exact ⟨by rw [HD2.out]; rfl, rfl⟩
    · go_enter Tryz.func40, Tryz.ntmps40
      go_wp2
      go_ret
      exact ⟨by rw [HD2.out]; rfl, rfl⟩
set_option maxRecDepth 100000 in
theorem rfilled_any (ns : List NodeD) (hps : ∀ x ∈ ns, pathB x.path = true) (hlen : ns.length ≤ 1000000) (p : List UInt8) (hp : pathB p = true) (v : Value) (nx : Int) (W : World) (hN : NodesV W v ns) :
    Calls Tryz.prog 38 #[.agg (keepV v nx), .string (mkB p)] W fun e w' => e = .returned (.bool (filledN ns p)) ∧ Below W.heap.size W w' := by
  obtain ⟨q, c, rfl, hN0⟩ := hN
  have HN := Lib.hid hN0
  have HB : Hid (∀ (k : Nat) (hk : k < ns.length) (w : World), Calls Tryz.prog 40 #[.string (mkB ns[k].path), .string (mkB p)] w fun e w' => e = .returned (.bool (belowQ ns[k].path p)) ∧ w' = w) := Lib.hid (fun k hk w => rbelow_any _ _ (hps _ (List.getElem_mem hk)) hp w)
  have hli : (ns.length : Int) ≤ 1000000 := by omega
  have HR : Hid (filledN ns p = ns.any fun x => belowQ x.path p) := Lib.hid rfl
  clear hN0 hps hp hlen
  generalize filledN ns p = r at HR ⊢
  go_enter Tryz.func38, Tryz.ntmps38
  go_wp2
  go_loop [5] (fun i => ∃ k : Nat, k ≤ ns.length ∧ i = .int .i64 k ∧ Hid (∀ j (hj : j < ns.length), j < k → belowQ ns[j].path p = false)) (fun i => ns.length - (intOf i).toNat)
  case atStart => exact ⟨0, Nat.zero_le _, rfl, Lib.hid (fun j _ h => absurd h (Nat.not_lt_zero _))⟩
  case round =>
    obtain ⟨k, hk, rfl, HK⟩ := hrel
    by_cases hlt : k < ns.length
    · obtain ⟨b, off, rfl, hrow⟩ := HN.out (nonil hlt)
      have c0 := (hrow.below ((Below.refl W.heap.size W).alloc (Nat.le_refl _) (.cells (keepV (.slice (some ⟨b, off, none⟩) ns.length c) nx) 24))).c0 k hlt
      have HBK := Lib.hid (HB.out k hlt)
      have hki : (k : Int) < ns.length := by omega
      clear hrow
      cases hb : belowQ ns[k].path p
      · rw [hb] at HBK
        have HE := Lib.hid hb
        clear hb
        go_wp2_with (go_at_call 40; refine (HBK.out _).mono ?_; rintro e w1 ⟨rfl, rfl⟩)
        go_round
        case rel => exact ⟨k + 1, by omega, by go_num, Lib.hid (fun j hj hjk => by
          rcases Nat.lt_or_eq_of_le (Nat.le_of_lt_succ hjk) with h | rfl
          · exact HK.out j hj h
          · exact HE.out)⟩
        case measure => simp [intOf]; omega
      · rw [hb] at HBK
        have HE : Hid (r = true) := Lib.hid (by rw [HR.out]; exact List.any_eq_true.2 ⟨_, List.getElem_mem hlt, hb⟩)
        clear hb
        go_wp2_with (go_at_call 40; refine (HBK.out _).mono ?_; rintro e w1 ⟨rfl, rfl⟩)
        go_ret
        exact ⟨by rw [HE.out]; rfl, (Below.refl _ _).alloc (Nat.le_refl _) _⟩
    · obtain rfl : k = ns.length := by omega
      have HE : Hid (r = false) := Lib.hid (by rw [HR.out]; exact any_false HK.out)
      go_wp2
      go_ret
      exact ⟨by rw [HE.out]; rfl, (Below.refl _ _).alloc (Nat.le_refl _) _⟩
end Go.Proofs.YtlpgandflkabcaaGreatDoor
namespace Go.Proofs.YtlpgandflkabcaaGreatDoor
open Go Go.RowKit Go.Shelf
set_option linter.unusedVariables false
set_option linter.unusedSimpArgs false

theorem nodeVs_snoc (l : List NodeD) (y : NodeD) : nodeVs (l ++ [y]) = nodeVs l ++ (nodeV y).toList := by simp [nodeVs]
set_option maxRecDepth 100000 in
/-- One node more, behind a row that the call owns. -/
theorem append_node {ops : Array Oper} {rest : List Oper} {o : Oper} {a : Act} {w : World} {Q : Exit → Act → World → Prop} (hgd : o.guard = none) (s x : Operand)
    (ho : o.op = .call { callee := .builtin .append, args := #[s, x], argTypes := #[22, 22] }) (B : Nat) (v : Value) (l : List NodeD) (hs : a.eval s = v) (hown : w.ownsRow B 28 4 v l.length (nodeVs l))
    (y : NodeD) (g : Nat) (hx : a.eval x = .slice (some ⟨g, 0, none⟩) 1 1) (hg : w.heap[g]? = some (.cells (nodeV y) 28)) (hl : l.length ≤ 1000) (hB : B ≤ w.heap.size)
    (h : ∀ v' w', w'.ownsRow B 28 4 v' (l ++ [y]).length (nodeVs (l ++ [y])) → w.grownBy w' v.ownBlock → wpList Tryz.prog ops Q rest (a.put o.dst v') w') : wpList Tryz.prog ops Q (o :: rest) a w := by
  obtain ⟨i0, hi, hz0, hz1, hz2⟩ := info_parts infoTN
  refine wpList_append_own w hgd s x 22 ho B 28 i0 (.agg #[.string ⟨#[]⟩, .bool false, .string ⟨#[]⟩, .int .i64 0]) 4 48 Tryz.underlying22 hi hz0 hz1 hz2 rfl (by decide) v l.length (nodeVs l) hs hown ⟨g, 0, none⟩ 1 1 (nodeV y).toList hx rfl (fun j u hj => ?_) ?_ (by simp only [maxLen]; omega) (by omega) hB ?_
  · rw [Addr.add_mid]
    exact cell_at hg (by simpa using hj)
  · intro u hu
    simp at hu
    rcases hu with rfl | rfl | rfl | rfl <;> rfl
  · intro v' w' h1 h2 _
    refine h v' w' ?_ h2
    rw [nodeVs_snoc, List.length_append]
    exact h1
theorem below_appended {B : Nat} {W w w' : World} {v : Value} {n : Nat} {xs : List Value} (hb : Below B W w) (hB : B ≤ W.heap.size) (hown : w.ownsRow B 28 4 v n xs) (hg : w.grownBy w' v.ownBlock) : Below B W w' :=
  hb.grown hg (Nat.le_trans hB hb.size) (fun k hk => (hown.lt k hk).1)
set_option maxRecDepth 100000 in
set_option maxHeartbeats 4000000 in
theorem rwithout_any (ns : List NodeD) (hlen : ns.length ≤ 1000) (p : List UInt8) (v : Value) (nx : Int) (W : World) (hN : NodesV W v ns) :
    Calls Tryz.prog 39 #[.agg (keepV v nx), .string (mkB p)] W fun e w' => ∃ v', e = .returned v' ∧ w'.ownsRow W.heap.size 28 4 v' (dropN ns p).length (nodeVs (dropN ns p)) ∧ Below W.heap.size W w' := by
  obtain ⟨q, c, rfl, hN0⟩ := hN
  have HN := Lib.hid hN0
  have hli : (ns.length : Int) ≤ 1000 := by omega
  have HLEN := Lib.hid hlen
  obtain ⟨W0, hW0⟩ : ∃ W0, W0 = W.alloc (.cells (keepV (.slice q ns.length c) nx) 24) := ⟨_, rfl⟩
  have HF : Hid (∀ w', Below W0.heap.size W0 w' → Below W.heap.size W w' ∧ w'.heap[W.heap.size]? = some (.cells (keepV (.slice q ns.length c) nx) 24)) := Lib.hid (fun w' h => by
    rw [hW0] at h
    exact ⟨((Below.refl _ _).alloc (Nat.le_refl _) _).trans (h.mono (by simp only [heap_len]; omega)), (h.block _ (by simp only [heap_len]; omega)).trans (heap_new _ _ _ rfl)⟩)
  have HS0 : Hid (W.heap.size ≤ W0.heap.size) := Lib.hid (HF.out W0 (Below.refl _ _)).1.size
  clear hN0 hlen
  go_enter Tryz.func39, Tryz.ntmps39
  go_wp2
  rw [← hW0]
  clear hW0
  go_loopw [5, 6] (fun u iv wr => ∃ j : Nat, j ≤ ns.length ∧ iv = .int .i64 j ∧ Hid (Below W0.heap.size W0 wr) ∧ Hid (wr.ownsRow W0.heap.size 28 4 u (dropN (ns.take j) p).length (nodeVs (dropN (ns.take j) p)))) (fun u iv wr => ns.length - (intOf iv).toNat)
  case atStart => exact ⟨0, Nat.zero_le _, rfl, Lib.hid (Below.refl _ _), Lib.hid (World.ownsRow_nil _ _ _ _)⟩
  case round =>
    obtain ⟨j, hj, rfl, HB, HO⟩ := hrel
    have s0 := cell_at (o := 0) (HF.out _ HB.out).2 rfl
    by_cases hlt : j < ns.length
    · obtain ⟨b, off, rfl, hrow⟩ := HN.out (nonil hlt)
      have hrow2 := hrow.below (HF.out _ HB.out).1
      have c0 := hrow2.c0 j hlt
      have c1 := hrow2.c1 j hlt
      have c2 := hrow2.c2 j hlt
      have c3 := hrow2.c3 j hlt
      have hji : (j : Int) < ns.length := by omega
      have HTK := Lib.hid (dropN_take (p := p) hlt)
      have hll := dropN_le (ns.take j) p
      rw [List.length_take] at hll
      have HLL : Hid ((dropN (ns.take j) p).length ≤ 1000) := Lib.hid (by have := HLEN.out; omega)
      have h1 : ((mkB ns[j].path).toList == (mkB p).toList) = (ns[j].path == p) := by rw [mkB_toList, mkB_toList]
      clear hrow hrow2 hll
      cases e1 : (ns[j].path == p)
      · have HIN : Hid (dropN (ns.take (j + 1)) p = dropN (ns.take j) p ++ [ns[j]]) := Lib.hid (by rw [HTK.out, e1]; rfl)
        rw [e1] at h1
        clear e1 HTK
        go_wp2_with (at_builtin; refine append_node rfl _ _ rfl W0.heap.size _ (dropN (ns.take j) p) rfl (HO.out.alloc _) ns[j] wr.heap.size rfl (heap_new _ _ _ rfl) HLL.out (by have := HB.out.size; simp only [heap_len]; omega) ?_)
        intro v' w5 hown' hgrow
        have K1 : Hid (w5.ownsRow W0.heap.size 28 4 v' (dropN (ns.take (j + 1)) p).length (nodeVs (dropN (ns.take (j + 1)) p))) := Lib.hid (by rw [HIN.out, List.length_append]; exact hown')
        have K2 : Hid (Below W0.heap.size W0 w5) := Lib.hid (below_appended (HB.out.alloc HB.out.size _) (Nat.le_refl _) (HO.out.alloc _) hgrow)
        clear hown' hgrow
        go_wp2
        go_roundw
        case rel => exact ⟨j + 1, by omega, by go_num, K2, K1⟩
        case measure => simp [intOf]; omega
      · have HIN : Hid (dropN (ns.take (j + 1)) p = dropN (ns.take j) p) := Lib.hid (by rw [HTK.out, e1, if_pos rfl, List.append_nil])
        rw [e1] at h1
        clear e1 HTK
        go_wp2
        go_roundw
        case rel => exact ⟨j + 1, by omega, by go_num, HB, Lib.hid (by rw [HIN.out]; exact HO.out)⟩
        case measure => simp [intOf]; omega
    · obtain rfl : j = ns.length := by omega
      go_wp2
      go_ret
      exact ⟨_, rfl, by have := HO.out; rw [List.take_length] at this; exact ownsRow_le this HS0.out, (HF.out _ HB.out).1⟩
/-- One node more, from the first greater one on. -/
theorem withN_take {ns : List NodeD} (hr : RiseS ns) (y : NodeD) (hno : hasS ns y.path = false) {j : Nat} (hj : j < ns.length) :
    (ns[j].path < y.path → j < lowS ns y.path) ∧ (y.path < ns[j].path → lowS ns y.path ≤ j) := by
  constructor
  · intro h
    apply Classical.byContradiction
    intro hc
    have hl : lowS ns y.path < ns.length := by omega
    have h1 := lowS_ge hl
    rcases Nat.lt_or_eq_of_le (Nat.le_of_not_lt hc) with h2 | h2
    · exact h1 (ltS_trans (hr.at hj h2) h)
    · simp only [h2] at h1
      exact h1 h
  · intro h
    apply Classical.byContradiction
    intro hc
    exact ltS_asymm h (lowS_lt (by omega) hj)
/-- How far the copy is, at place j. -/
def WithTo (ns : List NodeD) (y : NodeD) (j : Nat) (d : Bool) (l : List NodeD) : Prop := (j ≤ lowS ns y.path ∧ d = false ∧ l = ns.take j) ∨ (lowS ns y.path < j ∧ d = true ∧ l = ns.take (lowS ns y.path) ++ y :: (ns.take j).drop (lowS ns y.path))
theorem withTo_len {ns : List NodeD} {y : NodeD} {j : Nat} {d : Bool} {l : List NodeD} (h : WithTo ns y j d l) (hj : j ≤ ns.length) : l.length ≤ ns.length + 1 := by
  rcases h with ⟨_, _, rfl⟩ | ⟨h1, _, rfl⟩
  · rw [List.length_take]; omega
  · simp only [List.length_append, List.length_take, List.length_cons, List.length_drop]; omega
theorem withTo_next {ns : List NodeD} {y : NodeD} {j : Nat} {l : List NodeD} (h : WithTo ns y j true l) (hj : j < ns.length) : WithTo ns y (j + 1) true (l ++ [ns[j]]) := by
  rcases h with ⟨_, h, _⟩ | ⟨h1, _, rfl⟩
  · cases h
  · refine .inr ⟨by omega, rfl, ?_⟩
    rw [List.take_succ_eq_append_getElem hj, List.drop_append_of_le_length (by rw [List.length_take]; omega)]
    simp
theorem withTo_small {ns : List NodeD} (hr : RiseS ns) {y : NodeD} (hno : hasS ns y.path = false) {j : Nat} {l : List NodeD} (h : WithTo ns y j false l) (hj : j < ns.length) (hlt : ns[j].path < y.path) : WithTo ns y (j + 1) false (l ++ [ns[j]]) := by
  rcases h with ⟨_, _, rfl⟩ | ⟨_, h, _⟩
  · exact .inl ⟨(withN_take hr y hno hj).1 hlt, rfl, (List.take_succ_eq_append_getElem hj).symm⟩
  · cases h
theorem withTo_great {ns : List NodeD} (hr : RiseS ns) {y : NodeD} (hno : hasS ns y.path = false) {j : Nat} {l : List NodeD} (h : WithTo ns y j false l) (hj : j < ns.length) (hlt : y.path < ns[j].path) : WithTo ns y (j + 1) true ((l ++ [y]) ++ [ns[j]]) := by
  rcases h with ⟨h1, _, rfl⟩ | ⟨_, h, _⟩
  · have h2 := (withN_take hr y hno hj).2 hlt
    obtain rfl : j = lowS ns y.path := by omega
    refine .inr ⟨by omega, rfl, ?_⟩
    rw [List.take_succ_eq_append_getElem hj, List.drop_append_of_le_length (by rw [List.length_take]; omega), List.drop_of_length_le (by rw [List.length_take]; omega)]
    simp
  · cases h
theorem withTo_end {ns : List NodeD} {y : NodeD} {d : Bool} {l : List NodeD} (h : WithTo ns y ns.length d l) : (if d = true then l else l ++ [y]) = withN ns y := by
  rcases h with ⟨h1, rfl, rfl⟩ | ⟨h1, rfl, rfl⟩
  · have h2 := lowS_le (l := ns) (x := y.path)
    have h3 : lowS ns y.path = ns.length := by omega
    rw [if_neg (by decide), withN, h3, List.drop_length]
  · rw [if_pos rfl, withN, List.take_length]
set_option maxRecDepth 100000 in
set_option maxHeartbeats 8000000 in
theorem rwith_any (ns : List NodeD) (hr : RiseS ns) (hlen : ns.length ≤ 900) (y : NodeD) (hno : hasS ns y.path = false) (v : Value) (W : World) (hN : NodesV W v ns) :
    Calls Tryz.prog 36 #[v, .agg (nodeV y)] W fun e w' => ∃ v', e = .returned v' ∧ w'.ownsRow W.heap.size 28 4 v' (withN ns y).length (nodeVs (withN ns y)) ∧ Below W.heap.size W w' := by
  obtain ⟨q, c, rfl, hN0⟩ := hN
  have HN := Lib.hid hN0
  have hli : (ns.length : Int) ≤ 900 := by omega
  have HLEN := Lib.hid hlen
  obtain ⟨W0, hW0⟩ : ∃ W0, W0 = W.alloc (.cells (nodeV y) 28) := ⟨_, rfl⟩
  have HF : Hid (∀ w', Below W0.heap.size W0 w' → Below W.heap.size W w' ∧ w'.heap[W.heap.size]? = some (.cells (nodeV y) 28)) := Lib.hid (fun w' h => by
    rw [hW0] at h
    exact ⟨((Below.refl _ _).alloc (Nat.le_refl _) _).trans (h.mono (by simp only [heap_len]; omega)), (h.block _ (by simp only [heap_len]; omega)).trans (heap_new _ _ _ rfl)⟩)
  have HS0 : Hid (W.heap.size ≤ W0.heap.size) := Lib.hid (HF.out W0 (Below.refl _ _)).1.size
  have HNEXT : Hid (∀ j (hj : j < ns.length) l, WithTo ns y j true l → WithTo ns y (j + 1) true (l ++ [ns[j]])) := Lib.hid (fun j hj l h => withTo_next h hj)
  have HSMALL : Hid (∀ j (hj : j < ns.length) l, ns[j].path < y.path → WithTo ns y j false l → WithTo ns y (j + 1) false (l ++ [ns[j]])) := Lib.hid (fun j hj l hlt h => withTo_small hr hno h hj hlt)
  have HGREAT : Hid (∀ j (hj : j < ns.length) l, y.path < ns[j].path → WithTo ns y j false l → WithTo ns y (j + 1) true ((l ++ [y]) ++ [ns[j]])) := Lib.hid (fun j hj l hlt h => withTo_great hr hno h hj hlt)
  have HTRI : Hid (∀ j (hj : j < ns.length), ¬ y.path < ns[j].path → ns[j].path < y.path) := Lib.hid (fun j hj h => by
    rcases ltS_tri ns[j].path y.path with k | k | k
    · exact k
    · exact absurd k (hasS_not.1 hno _ (List.getElem_mem hj))
    · exact absurd k h)
  have HNE : Hid (∀ j (hj : j < ns.length), ns[j].path ≠ y.path) := Lib.hid (fun j hj => hasS_not.1 hno _ (List.getElem_mem hj))
  clear hN0 hlen hr hno
  go_enter Tryz.func36, Tryz.ntmps36
  go_wp2
  rw [← hW0]
  clear hW0
  go_loopw [5, 6, 7] (fun u dv iv wr => ∃ (j : Nat) (d : Bool) (l : List NodeD), j ≤ ns.length ∧ iv = .int .i64 j ∧ dv = .bool d ∧ Hid (WithTo ns y j d l) ∧ Hid (Below W0.heap.size W0 wr) ∧ Hid (wr.ownsRow W0.heap.size 28 4 u l.length (nodeVs l))) (fun u dv iv wr => ns.length - (intOf iv).toNat)
  case atStart => exact ⟨0, false, [], Nat.zero_le _, rfl, rfl, Lib.hid (.inl ⟨Nat.zero_le _, rfl, by simp⟩), Lib.hid (Below.refl _ _), Lib.hid (World.ownsRow_nil _ _ _ _)⟩
  case round =>
    obtain ⟨j, d, l, hj, rfl, rfl, HT, HB, HO⟩ := hrel
    have HY := Lib.hid (HF.out _ HB.out).2
    have HLL : Hid (l.length ≤ 999) := Lib.hid (by have := withTo_len HT.out hj; have := HLEN.out; omega)
    by_cases hlt : j < ns.length
    · obtain ⟨b, off, rfl, hrow⟩ := HN.out (nonil hlt)
      have HR : Hid (∀ w', Below W0.heap.size W0 w' → RowN w' b off ns) := Lib.hid (fun w' h => hrow.below (HF.out _ h).1)
      have hji : (j : Int) < ns.length := by omega
      have x0 : ∀ s : Grown wr, s.w.cell? ⟨W.heap.size, 0, none⟩ = some (.string (mkB y.path)) := Grown.cell (o := 0) HY.out rfl
      have p0 : ∀ s : Grown wr, s.w.cell? ⟨b, off + j * 4, none⟩ = some (.string (mkB ns[j].path)) := fun s => (HR.out _ (HB.out.trans (s.below.mono HB.out.size))).c0 j hlt
      have hless := less_any ns[j].path y.path
      have heq : ((mkB ns[j].path).toList == (mkB y.path).toList) = false := by rw [mkB_toList, mkB_toList]; exact beq_eq_false_iff_ne.2 (HNE.out j hlt)
      clear hrow
      cases d
      · by_cases hg : y.path < ns[j].path
        · rw [decide_eq_false (ltS_asymm hg)] at hless
          have HNX := Lib.hid (HGREAT.out j hlt l hg HT.out)
          clear hg
          go_upto_region 6 with fail
          (refine wp_region_grown (by kernel_rfl) (by kernel_rfl) ?_; (repeat (go_big_quiet_step (fail))); refine wpQuiet_nil ?_; intro _ hw'; obtain ⟨sG, hw''⟩ := hw'; subst hw'')
          obtain ⟨WZ, hWZ⟩ : ∃ WZ, WZ = sG.w := ⟨_, rfl⟩
          have HBZ : Hid (Below W0.heap.size W0 WZ) := Lib.hid (by rw [hWZ]; exact HB.out.trans (sG.below.mono HB.out.size))
          have HOZ : Hid (WZ.ownsRow W0.heap.size 28 4 u5 l.length (nodeVs l)) := Lib.hid (by rw [hWZ]; exact ownsRow_below HO.out sG.below)
          rw [← hWZ]
          clear hWZ sG x0 p0
          have HYZ := Lib.hid (HF.out _ HBZ.out).2
          have y0 := cell_at (o := 0) HYZ.out rfl
          have y1 := cell_at (o := 1) HYZ.out rfl
          have y2 := cell_at (o := 2) HYZ.out rfl
          have y3 := cell_at (o := 3) HYZ.out rfl
          go_upto_region 9 with (at_builtin; refine append_node rfl _ _ rfl W0.heap.size _ l rfl (HOZ.out.alloc _) y WZ.heap.size rfl (heap_new _ _ _ rfl) (by have := HLL.out; omega) (by have := HBZ.out.size; simp only [heap_len]; omega) ?_; intro v4 w4 hown4 hgrow4; have HO4 : Hid (w4.ownsRow W0.heap.size 28 4 v4 (l ++ [y]).length (nodeVs (l ++ [y]))) := Lib.hid (by first | exact hown4 | (rw [List.length_append]; exact hown4)); have HB4 : Hid (Below W0.heap.size W0 w4) := Lib.hid (below_appended (HBZ.out.alloc HBZ.out.size _) (Nat.le_refl _) (HOZ.out.alloc _) hgrow4); clear hown4 hgrow4)
          clear y0 y1 y2 y3
          have c0 := (HR.out _ HB4.out).c0 j hlt
          have c1 := (HR.out _ HB4.out).c1 j hlt
          have c2 := (HR.out _ HB4.out).c2 j hlt
          have c3 := (HR.out _ HB4.out).c3 j hlt
          go_wp2_with (at_builtin; refine append_node rfl _ _ rfl W0.heap.size _ (l ++ [y]) rfl (HO4.out.alloc _) ns[j] w4.heap.size rfl (heap_new _ _ _ rfl) (by have := HLL.out; first | omega | (simp only [List.length_append, List.length_cons, List.length_nil]; omega)) (by have := HB4.out.size; simp only [heap_len]; omega) ?_)
          intro v' w5 hown' hgrow
          have K1 : Hid (w5.ownsRow W0.heap.size 28 4 v' ((l ++ [y]) ++ [ns[j]]).length (nodeVs ((l ++ [y]) ++ [ns[j]]))) := Lib.hid (by first | (rw [List.length_append]; exact hown') | simpa using hown')
          have K2 : Hid (Below W0.heap.size W0 w5) := Lib.hid (below_appended (HB4.out.alloc HB4.out.size _) (Nat.le_refl _) (HO4.out.alloc _) hgrow)
          clear hown' hgrow
          go_wp2
          go_roundw
          case rel => exact ⟨j + 1, _, (l ++ [y]) ++ [ns[j]], by omega, by go_num, rfl, HNX, K2, K1⟩
          case measure => simp [intOf]; omega
        · rw [decide_eq_true (HTRI.out j hlt hg)] at hless
          have HNX := Lib.hid (HSMALL.out j hlt l (HTRI.out j hlt hg) HT.out)
          clear hg
          go_upto_region 6 with fail
          (refine wp_region_grown (by kernel_rfl) (by kernel_rfl) ?_; (repeat (go_big_quiet_step (fail))); refine wpQuiet_nil ?_; intro _ hw'; obtain ⟨sG, hw''⟩ := hw'; subst hw'')
          obtain ⟨WZ, hWZ⟩ : ∃ WZ, WZ = sG.w := ⟨_, rfl⟩
          have HBZ : Hid (Below W0.heap.size W0 WZ) := Lib.hid (by rw [hWZ]; exact HB.out.trans (sG.below.mono HB.out.size))
          have HOZ : Hid (WZ.ownsRow W0.heap.size 28 4 u5 l.length (nodeVs l)) := Lib.hid (by rw [hWZ]; exact ownsRow_below HO.out sG.below)
          rw [← hWZ]
          clear hWZ sG x0 p0
          have c0 := (HR.out _ HBZ.out).c0 j hlt
          have c1 := (HR.out _ HBZ.out).c1 j hlt
          have c2 := (HR.out _ HBZ.out).c2 j hlt
          have c3 := (HR.out _ HBZ.out).c3 j hlt
          go_wp2_with (at_builtin; refine append_node rfl _ _ rfl W0.heap.size _ l rfl (HOZ.out.alloc _) ns[j] WZ.heap.size rfl (heap_new _ _ _ rfl) (by have := HLL.out; first | omega | (simp only [List.length_append, List.length_cons, List.length_nil]; omega)) (by have := HBZ.out.size; simp only [heap_len]; omega) ?_)
          intro v' w5 hown' hgrow
          have K1 : Hid (w5.ownsRow W0.heap.size 28 4 v' (l ++ [ns[j]]).length (nodeVs (l ++ [ns[j]]))) := Lib.hid (by first | (rw [List.length_append]; exact hown') | simpa using hown')
          have K2 : Hid (Below W0.heap.size W0 w5) := Lib.hid (below_appended (HBZ.out.alloc HBZ.out.size _) (Nat.le_refl _) (HOZ.out.alloc _) hgrow)
          clear hown' hgrow
          go_wp2
          go_roundw
          case rel => exact ⟨j + 1, _, l ++ [ns[j]], by omega, by go_num, rfl, HNX, K2, K1⟩
          case measure => simp [intOf]; omega
      · have HNX := Lib.hid (HNEXT.out j hlt l HT.out)
        go_upto_region 6 with fail
        (refine wp_region_grown (by kernel_rfl) (by kernel_rfl) ?_; (repeat (go_big_quiet_step (fail))); refine wpQuiet_nil ?_; intro _ hw'; obtain ⟨sG, hw''⟩ := hw'; subst hw'')
        obtain ⟨WZ, hWZ⟩ : ∃ WZ, WZ = sG.w := ⟨_, rfl⟩
        have HBZ : Hid (Below W0.heap.size W0 WZ) := Lib.hid (by rw [hWZ]; exact HB.out.trans (sG.below.mono HB.out.size))
        have HOZ : Hid (WZ.ownsRow W0.heap.size 28 4 u5 l.length (nodeVs l)) := Lib.hid (by rw [hWZ]; exact ownsRow_below HO.out sG.below)
        rw [← hWZ]
        clear hWZ sG x0 p0
        have c0 := (HR.out _ HBZ.out).c0 j hlt
        have c1 := (HR.out _ HBZ.out).c1 j hlt
        have c2 := (HR.out _ HBZ.out).c2 j hlt
        have c3 := (HR.out _ HBZ.out).c3 j hlt
        go_wp2_with (at_builtin; refine append_node rfl _ _ rfl W0.heap.size _ l rfl (HOZ.out.alloc _) ns[j] WZ.heap.size rfl (heap_new _ _ _ rfl) (by have := HLL.out; first | omega | (simp only [List.length_append, List.length_cons, List.length_nil]; omega)) (by have := HBZ.out.size; simp only [heap_len]; omega) ?_)
        intro v' w5 hown' hgrow
        have K1 : Hid (w5.ownsRow W0.heap.size 28 4 v' (l ++ [ns[j]]).length (nodeVs (l ++ [ns[j]]))) := Lib.hid (by first | (rw [List.length_append]; exact hown') | simpa using hown')
        have K2 : Hid (Below W0.heap.size W0 w5) := Lib.hid (below_appended (HBZ.out.alloc HBZ.out.size _) (Nat.le_refl _) (HOZ.out.alloc _) hgrow)
        clear hown' hgrow
        go_wp2
        go_roundw
        case rel => exact ⟨j + 1, _, l ++ [ns[j]], by omega, by go_num, rfl, HNX, K2, K1⟩
        case measure => simp [intOf]; omega
    · obtain rfl : j = ns.length := by omega
      have HE := Lib.hid (withTo_end HT.out)
      have y0 := cell_at (o := 0) HY.out rfl
      have y1 := cell_at (o := 1) HY.out rfl
      have y2 := cell_at (o := 2) HY.out rfl
      have y3 := cell_at (o := 3) HY.out rfl
      cases d
      · have HE2 : Hid (l ++ [y] = withN ns y) := Lib.hid (by have := HE.out; rwa [if_neg (by decide)] at this)
        go_wp2_with (at_builtin; refine append_node rfl _ _ rfl W0.heap.size _ l rfl (HO.out.alloc _) y wr.heap.size rfl (heap_new _ _ _ rfl) (by have := HLL.out; omega) (by have := HB.out.size; simp only [heap_len]; omega) ?_)
        intro v' w5 hown' hgrow
        have K1 : Hid (w5.ownsRow W0.heap.size 28 4 v' (withN ns y).length (nodeVs (withN ns y))) := Lib.hid (by rw [← HE2.out, List.length_append]; exact hown')
        have K2 : Hid (Below W0.heap.size W0 w5) := Lib.hid (below_appended (HB.out.alloc HB.out.size _) (Nat.le_refl _) (HO.out.alloc _) hgrow)
        clear hown' hgrow
        go_wp2
        go_ret
        exact ⟨_, rfl, ownsRow_le K1.out HS0.out, (HF.out _ K2.out).1⟩
      · have HE2 : Hid (l = withN ns y) := Lib.hid (by have := HE.out; rwa [if_pos rfl] at this)
        go_wp2
        go_ret
        exact ⟨_, rfl, by rw [← HE2.out]; exact ownsRow_le HO.out HS0.out, (HF.out _ HB.out).1⟩
end Go.Proofs.YtlpgandflkabcaaGreatDoor
