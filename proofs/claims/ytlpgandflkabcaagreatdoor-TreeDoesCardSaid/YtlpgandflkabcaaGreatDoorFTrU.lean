/-
  The names in a directory.
-/
import Derived.Test.YtlpgandflkabcaaGreatDoorFTrT
namespace Go.Proofs.YtlpgandflkabcaaGreatDoor
open Go Go.RowKit Go.Shelf
set_option linter.unusedVariables false
set_option linter.unusedSimpArgs false

/-- Is a node right in a directory? -/
def inDir (p : List UInt8) (x : NodeD) : Bool := (dirP x.path == p) && !(x.path == [47])
def listL (ns : List NodeD) (p : List UInt8) : List (List UInt8) := (ns.filter (inDir p)).map fun x => nameP x.path
theorem listL_take {ns : List NodeD} {p : List UInt8} {k : Nat} (hk : k < ns.length) : listL (ns.take (k + 1)) p = listL (ns.take k) p ++ if inDir p ns[k] then [nameP ns[k].path] else [] := by
  rw [List.take_succ_eq_append_getElem hk, listL, listL, List.filter_append, List.map_append]
  congr 1
  cases h : inDir p ns[k] <;> simp [h]
theorem listL_len (ns : List NodeD) (p : List UInt8) : (listL ns p).length ≤ ns.length := by
  rw [listL, List.length_map]
  exact List.length_filter_le _ _
set_option maxRecDepth 100000 in
set_option maxHeartbeats 4000000 in
theorem list_dir (ns : List NodeD) (hr : RiseS ns) (hlen : ns.length ≤ 1000) (hpaths : ∀ k (h : k < ns.length), pathB ns[k].path = true) (p : List UInt8) (hp : pathB p = true) (k : Nat) (hk2 : k < ns.length) (hkp : ns[k].path = p) (hkd : ns[k].dir = true) (v : Value) (nx : Int) (W : World) (hN : NodesV W v ns) :
    Calls Tryz.prog 24 #[.agg (keepV v nx), .string (mkB p)] W fun e w' => ∃ u, e = .returned (.tuple #[u, .int .i64 0]) ∧ w'.ownsRow W.heap.size 9 1 u (listL ns p).length (strVs (listL ns p)) ∧ Below W.heap.size W w' := by
  obtain ⟨q, c, rfl, hN0⟩ := hN
  have hN : NodesV W (.slice q ns.length c) ns := ⟨q, c, rfl, hN0⟩
  have hpl := path_len hp
  have HFI : Hid (∀ W' : World, Below W.heap.size W W' → Calls Tryz.prog 9 #[.agg (keepV (.slice q ns.length c) nx), .string (mkB p)] W' fun e w' => e = .returned (.tuple #[.agg (nodeV ns[k]), .int .i64 0]) ∧ Below W'.heap.size W' w') := Lib.hid (fun W' hb => findT_hit ns hr (by omega) p hp (by omega) k hk2 hkp _ nx W' (hN.below hb))
  have HSP : Hid (∀ (j : Nat) (h : j < ns.length) (w : World), Calls Tryz.prog 51 #[.string (mkB ns[j].path)] w fun e w' => e = .returned (.tuple #[.string (mkB (dirP ns[j].path)), .string (mkB (nameP ns[j].path))]) ∧ Below w.heap.size w w') := Lib.hid (fun j h w => splitp_any _ (hpaths j h) w (by have := path_len (hpaths j h); omega))
  obtain ⟨i0, hi, hz0, hz1, hz2⟩ := info_parts str_info
  have HN := Lib.hid hN0
  have HLEN := Lib.hid hlen
  have hli : (ns.length : Int) ≤ 1000 := by omega
  clear hN hN0 hr hlen hp hpl hkp hpaths
  go_enter Tryz.func24, Tryz.ntmps24
  go_upto_region 7 with (go_at_call 9; refine (HFI.out _ ((Below.refl _ _).alloc (Nat.le_refl _) _)).mono ?_; rintro e w1 ⟨rfl, hb1⟩; have HB1 := Lib.hid hb1; clear hb1)
  have hbx := (HB1.out.block W.heap.size (by simp only [heap_len]; omega)).trans (heap_new W (.cells (keepV (.slice q ns.length c) nx) 24) _ rfl)
  have x0 := fun t' v' => cell_at (o := 0) ((heap_old w1 (.cells v' t') _ (heap_lt hbx)).trans hbx) rfl
  have HBW : Hid (Below W.heap.size W w1) := Lib.hid (((Below.refl _ _).alloc (Nat.le_refl _) _).trans (HB1.out.mono (by simp only [heap_len]; omega)))
  clear hbx
  go_wp2
  go_loopw [8, 30] (fun u iv wr => ∃ j : Nat, j ≤ ns.length ∧ iv = .int .i64 j ∧ Hid (Below W.heap.size W wr) ∧ Hid (wr.ownsRow W.heap.size 9 1 u (listL (ns.take j) p).length (strVs (listL (ns.take j) p)))) (fun u iv wr => ns.length - (intOf iv).toNat)
  case atStart => exact ⟨0, Nat.zero_le _, rfl, Lib.hid (HBW.out.alloc HBW.out.size _), Lib.hid (World.ownsRow_nil _ _ _ _)⟩
  case round =>
    obtain ⟨j, hj, rfl, HB, HO⟩ := hrel
    by_cases hlt : j < ns.length
    · obtain ⟨b, off, rfl, hrow⟩ := HN.out (nonil hlt)
      have hrow2 := hrow.below HB.out
      have c0 := hrow2.c0 j hlt
      have c1 := hrow2.c1 j hlt
      have c2 := hrow2.c2 j hlt
      have c3 := hrow2.c3 j hlt
      clear hrow hrow2
      have hll := listL_len (ns.take j) p
      rw [List.length_take] at hll
      have HTK := Lib.hid (listL_take (p := p) hlt)
      have h1 : ((mkB (dirP ns[j].path)).toList == (mkB p).toList) = (dirP ns[j].path == p) := by rw [mkB_toList, mkB_toList]
      have h2 : ((mkB ns[j].path).toList == [47]) = (ns[j].path == [47]) := by rw [mkB_toList]
      cases e1 : (dirP ns[j].path == p)
      · have HIN : Hid (inDir p ns[j] = false) := Lib.hid (by rw [inDir, e1]; rfl)
        rw [e1] at h1
        clear e1
        go_wp2_with (go_at_call 51; (with_reducible refine (HSP.out j hlt _).mono ?_); rintro e w2 ⟨rfl, hb2⟩; have z0 := cell_at (o := 0) ((hb2.block wr.heap.size (by simp only [heap_len]; omega)).trans (heap_new wr (.cells (nodeV ns[j]) 28) _ rfl)) rfl; have HB2 : Hid (Below W.heap.size W w2) := Lib.hid ((HB.out.alloc HB.out.size _).trans (hb2.mono (by have := HB.out.size; simp only [heap_len]; omega))); have HO2 : Hid (w2.ownsRow W.heap.size 9 1 u8 (listL (ns.take j) p).length (strVs (listL (ns.take j) p))) := Lib.hid (ownsRow_below (HO.out.alloc _) hb2); clear hb2)
        go_roundw
        case rel => exact ⟨j + 1, by omega, by go_num, HB2, Lib.hid (by have := HTK.out; rw [HIN.out, if_neg (by decide), List.append_nil] at this; rw [this]; exact HO2.out)⟩
        case measure => simp [intOf]; omega
      · rw [e1] at h1
        cases e2 : (ns[j].path == [47])
        · have HIN : Hid (inDir p ns[j] = true) := Lib.hid (by rw [inDir, e1, e2]; rfl)
          rw [e2] at h2
          clear e1 e2
          go_upto_region 12 with (go_at_call 51; (with_reducible refine (HSP.out j hlt _).mono ?_); rintro e w2 ⟨rfl, hb2⟩; have z0 := cell_at (o := 0) ((hb2.block wr.heap.size (by simp only [heap_len]; omega)).trans (heap_new wr (.cells (nodeV ns[j]) 28) _ rfl)) rfl; have HB2 : Hid (Below W.heap.size W w2) := Lib.hid ((HB.out.alloc HB.out.size _).trans (hb2.mono (by have := HB.out.size; simp only [heap_len]; omega))); have HO2 : Hid (w2.ownsRow W.heap.size 9 1 u8 (listL (ns.take j) p).length (strVs (listL (ns.take j) p))) := Lib.hid (ownsRow_below (HO.out.alloc _) hb2); clear hb2)
          go_wp2_with (at_builtin; refine wpList_append_own _ rfl _ _ 49 rfl W.heap.size 9 i0 (.string ⟨#[]⟩) 1 16 Tryz.underlying49 hi hz0 hz1 hz2 rfl (by decide) _ _ _ rfl (HO2.out.alloc _) ⟨w2.heap.size, 0, none⟩ 1 1 [.string (mkB (nameP ns[j].path))] rfl rfl (cell_one_new _ _ _) (by simp [Value.oneCell']) (by simp only [maxLen]; omega) (by omega) (by have := HB2.out.size; simp only [heap_len]; omega) ?_)
          intro v' w5 hown' hgrow _
          have K1 : Hid (w5.ownsRow W.heap.size 9 1 v' (listL (ns.take (j + 1)) p).length (strVs (listL (ns.take (j + 1)) p))) := Lib.hid (by
            have := HTK.out
            rw [HIN.out, if_pos rfl] at this
            rw [this, List.length_append]
            have e : strVs (listL (ns.take j) p ++ [nameP ns[j].path]) = strVs (listL (ns.take j) p) ++ [.string (mkB (nameP ns[j].path))] := by simp [strVs]
            rw [e]
            exact hown')
          have K2 : Hid (Below W.heap.size W w5) := Lib.hid ((HB2.out.alloc HB2.out.size _).grown hgrow (by have := HB2.out.size; simp only [heap_len]; omega) (fun k hk => (HO2.out.lt k hk).1))
          clear hown' hgrow
          go_wp2
          go_roundw
          case rel => exact ⟨j + 1, by omega, by go_num, K2, K1⟩
          case measure => simp [intOf]; omega
        · have HIN : Hid (inDir p ns[j] = false) := Lib.hid (by rw [inDir, e1, e2]; rfl)
          rw [e2] at h2
          clear e1 e2
          go_wp2_with (go_at_call 51; (with_reducible refine (HSP.out j hlt _).mono ?_); rintro e w2 ⟨rfl, hb2⟩; have z0 := cell_at (o := 0) ((hb2.block wr.heap.size (by simp only [heap_len]; omega)).trans (heap_new wr (.cells (nodeV ns[j]) 28) _ rfl)) rfl; have HB2 : Hid (Below W.heap.size W w2) := Lib.hid ((HB.out.alloc HB.out.size _).trans (hb2.mono (by have := HB.out.size; simp only [heap_len]; omega))); have HO2 : Hid (w2.ownsRow W.heap.size 9 1 u8 (listL (ns.take j) p).length (strVs (listL (ns.take j) p))) := Lib.hid (ownsRow_below (HO.out.alloc _) hb2); clear hb2)
          go_roundw
          case rel => exact ⟨j + 1, by omega, by go_num, HB2, Lib.hid (by have := HTK.out; rw [HIN.out, if_neg (by decide), List.append_nil] at this; rw [this]; exact HO2.out)⟩
          case measure => simp [intOf]; omega
    · obtain rfl : j = ns.length := by omega
      have HO3 := Lib.hid HO.out
      go_wp2
      go_ret2
      exact ⟨_, rfl, by have := HO3.out; rwa [List.take_length] at this, HB.out⟩
end Go.Proofs.YtlpgandflkabcaaGreatDoor
