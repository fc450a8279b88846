/-
  A tree's keeper: what is not found.
-/
import Derived.Test.YtlpgandflkabcaaGreatDoorFTrX
namespace Go.Proofs.YtlpgandflkabcaaGreatDoor
open Go Go.RowKit Go.Shelf
set_option linter.unusedVariables false
set_option linter.unusedSimpArgs false

abbrev noneN : NodeD := ⟨[], false, [], 0⟩
/-- Is a node that is there no directory? (By its place.) -/
def notDir (ns : List NodeD) (p : List UInt8) : Bool := hasS ns p && !((ns[lowS ns p]?.map NodeD.dir).getD false)
/-- From the nearest one above that is there. -/
def upE (ns : List NodeD) : List (List UInt8) → Int
  | [] => if notDir ns [47] = true then 20 else 2
  | q :: r => if hasS ns (rootL r.reverse) = true then (if notDir ns (rootL r.reverse) = true then 20 else 2) else upE ns r
def missE (ns : List NodeD) (p : List UInt8) : Int := upE ns (partsB p).reverse
theorem upE_ne (ns : List NodeD) : ∀ l, upE ns l = 20 ∨ upE ns l = 2
  | [] => by unfold upE; split <;> simp
  | q :: r => by
    unfold upE
    split
    · split <;> simp
    · exact upE_ne ns r
theorem rootL_one {l : List (List UInt8)} (hl : ∀ p ∈ l, NameOk p) : (rootL l == [47]) = l.isEmpty := by
  rw [Bool.eq_iff_iff, beq_iff_eq, List.isEmpty_iff]
  constructor
  · intro h
    exact rootL_inj hl (by simp) (h.trans (show [47] = rootL [] from rfl))
  · rintro rfl; rfl
set_option maxRecDepth 100000 in
set_option maxHeartbeats 4000000 in
theorem find_bad (p : List UInt8) (hp : pathB p = false) (hpl : p.length ≤ 1000000) (kb : Nat) (W : World) :
    Calls Tryz.prog 25 #[.pointer (some ⟨kb, 0, none⟩), .string (mkB p)] W fun e w' => e = .returned (.tuple #[.agg (nodeV noneN), .int .i64 22]) ∧ Below W.heap.size W w' := by
  have HP := Lib.hid (fun w => isPath_any p w hpl)
  have HPB := Lib.hid hp
  clear hp hpl
  go_enter Tryz.func25, Tryz.ntmps25
  have HZ : Hid (∀ w1 : World, Below (W.alloc (.cells (nodeV noneN) 28)).heap.size (W.alloc (.cells (nodeV noneN) 28)) w1 → w1.heap[W.heap.size]? = some (.cells (nodeV noneN) 28)) := Lib.hid (fun w1 h => (h.block _ (by simp only [heap_len]; omega)).trans (heap_new _ _ _ rfl))
  go_wp2_with (first
    | (go_at_call 26; refine (HP.out _).mono ?_; rintro e w1 ⟨rfl, hb1⟩; rw [HPB.out]; have HB1 := Lib.hid hb1; have HZ1 := Lib.hid (HZ.out w1 hb1); clear hb1)
    | (refine wpl_store 28 ?_; intro ee he; refine wpList_store_row he _ _ _ ee W.heap.size (nodeV noneN) rfl rfl 28 (nodeV noneN) HZ1.out (node_size _) rfl (node_one _) ?_))
  refine bodyPost_ret (res_cell_tmp rfl rfl (row_same HZ1.out) (by kernel_rfl) (node_size _)) rfl ?_
  exact ⟨rfl, below_row (((Below.refl _ _).alloc (Nat.le_refl _) _).trans (HB1.out.mono (by simp only [heap_len]; omega))) _ _ (Nat.le_refl _)⟩
def strLen : Value → Nat
  | .string b => b.size
  | _ => 0
theorem rootL_shorter (M : List (List UInt8)) {n : List UInt8} (hn : n ≠ []) : (rootL M).length < (rootL (M ++ [n])).length := by
  have h1 : 1 ≤ n.length := List.length_pos_iff.2 hn
  rw [rootL_snoc, List.length_append, List.length_cons]
  unfold rootL
  split
  · simp; omega
  · omega
/-- Where the search ends, from a path of these parts. -/
def stE (ns : List NodeD) (L : List (List UInt8)) : Int := if hasS ns (rootL L) = true then (if notDir ns (rootL L) = true then 20 else 2) else upE ns L.reverse
theorem stE_snoc {ns : List NodeD} {M : List (List UInt8)} {n : List UInt8} (h : hasS ns (rootL (M ++ [n])) = false) : stE ns (M ++ [n]) = stE ns M := by
  rw [stE, h, if_neg (by decide), List.reverse_append]
  show (if hasS ns (rootL M.reverse.reverse) = true then (if notDir ns (rootL M.reverse.reverse) = true then (20 : Int) else 2) else upE ns M.reverse) = _
  rw [List.reverse_reverse]
  rfl
theorem stE_nil {ns : List NodeD} (h : hasS ns [47] = false) : stE ns [] = 2 := by
  have e : notDir ns [47] = false := by rw [notDir, h]; rfl
  show (if hasS ns [47] = true then _ else (if notDir ns [47] = true then (20 : Int) else 2)) = 2
  rw [h, if_neg (by decide), e, if_neg (by decide)]
theorem stE_at {ns : List NodeD} {L : List (List UInt8)} {k : Nat} (hk : k < ns.length) (hh : hasS ns (rootL L) = true) (hl : lowS ns (rootL L) = k) : stE ns L = if ns[k].dir = true then 2 else 20 := by
  rw [stE, hh, if_pos rfl, notDir, hh, hl, List.getElem?_eq_getElem hk]
  simp only [Option.map_some, Option.getD_some, Bool.true_and]
  cases ns[k].dir <;> rfl
set_option maxRecDepth 100000 in
set_option maxHeartbeats 8000000 in
theorem find_miss (ns : List NodeD) (hr : RiseS ns) (hlen : ns.length ≤ 1000000) (p : List UInt8) (hp : pathB p = true) (hno : hasS ns p = false) (kb : Nat) (t : TypeId) (v : Value) (nx : Int) (W : World) (hk : W.heap[kb]? = some (.cells (keepV v nx) t)) (hN : NodesV W v ns) :
    Calls Tryz.prog 25 #[.pointer (some ⟨kb, 0, none⟩), .string (mkB p)] W fun e w' => e = .returned (.tuple #[.agg (nodeV noneN), .int .i64 (missE ns p)]) ∧ Below W.heap.size W w' := by
  have hpl := path_len hp
  obtain ⟨P, hP, hpe, hpl2⟩ := path_parts hp
  have hpp : partsB p = P := by rw [hpe]; exact parts_rootL hP
  have HME : Hid (missE ns p = stE ns P) := Lib.hid (by rw [missE, hpp, stE, ← hpe, hno, if_neg (by decide)])
  have HPI := Lib.hid (fun w => isPath_any p w (by omega))
  have HPB := Lib.hid hp
  have HAT : Hid (∀ (s : List UInt8) (W' : World), Below W.heap.size W W' → Calls Tryz.prog 27 #[.pointer (some ⟨kb, 0, none⟩), .string (mkB s)] W' fun e w' => e = .returned (.tuple #[.int .i64 (lowS ns s : Nat), .bool (hasS ns s)]) ∧ Below W'.heap.size W' w') := Lib.hid (fun s W' hb => at_any ns hr hlen s kb t v nx W' ((hb.block _ (heap_lt hk)).trans hk) (hN.below hb))
  have HSP : Hid (∀ (M : List (List UInt8)) (n : List UInt8) (w : World), (∀ q ∈ M ++ [n], NameOk q) → (rootL (M ++ [n])).length ≤ 255 → Calls Tryz.prog 51 #[.string (mkB (rootL (M ++ [n])))] w fun e w' => e = .returned (.tuple #[.string (mkB (rootL M)), .string (mkB n)]) ∧ Below w.heap.size w w') := Lib.hid (fun M n w hM hl => by
    have := splitp_any (rootL (M ++ [n])) (path_rootL hM hl) w (by omega)
    rw [dirP, nameP, parts_rootL hM, List.dropLast_concat] at this
    simpa using this)
  have HR := Lib.hid hr
  have HN := Lib.hid hN
  have HK := Lib.hid hk
  have HPO := Lib.hid (And.intro hP (hpe ▸ hpl2))
  have hli : (ns.length : Int) ≤ 1000000 := by omega
  have HNO := Lib.hid hno
  have HPE := Lib.hid hpe
  clear hr hlen hp hno hk hN hpl hpp hpl2 hP hpe
  go_enter Tryz.func25, Tryz.ntmps25
  have HZ : Hid (∀ w1 : World, Below (W.alloc (.cells (nodeV noneN) 28)).heap.size (W.alloc (.cells (nodeV noneN) 28)) w1 → w1.heap[W.heap.size]? = some (.cells (nodeV noneN) 28) ∧ Below W.heap.size W w1) := Lib.hid (fun w1 h => ⟨(h.block _ (by simp only [heap_len]; omega)).trans (heap_new _ _ _ rfl), ((Below.refl _ _).alloc (Nat.le_refl _) _).trans (h.mono (by simp only [heap_len]; omega))⟩)
  go_upto_region 4 with (first
    | (go_at_call 26; refine (HPI.out _).mono ?_; rintro e w1 ⟨rfl, hb1⟩; rw [HPB.out]; have HB1 := Lib.hid hb1; clear hb1)
    | (go_at_call 27; refine (HAT.out _ _ (HZ.out _ HB1.out).2).mono ?_; rintro e w2 ⟨rfl, hb2⟩; rw [HNO.out]; have HB2 := Lib.hid (HB1.out.trans (hb2.mono HB1.out.size)); clear hb2))
  go_wp2
  clear HPI HPB HB1
  go_loopw [1, 6, 7] (fun pv iv fv wr => ∃ L : List (List UInt8), pv = .string (mkB (rootL L)) ∧ iv = .int .i64 (lowS ns (rootL L) : Nat) ∧ fv = .bool (hasS ns (rootL L)) ∧ Hid ((∀ q ∈ L, NameOk q) ∧ (rootL L).length ≤ 255 ∧ missE ns p = stE ns L) ∧ Hid (Below (W.alloc (.cells (nodeV noneN) 28)).heap.size (W.alloc (.cells (nodeV noneN) 28)) wr)) (fun pv iv fv wr => strLen pv)
  case atStart => exact ⟨P, by rw [← HPE.out], by rw [← HPE.out], by rw [← HPE.out, HNO.out], Lib.hid ⟨HPO.out.1, HPO.out.2, HME.out⟩, HB2⟩
  case round =>
    obtain ⟨L, rfl, rfl, rfl, H3, HB⟩ := hrel
    have HZ1 := Lib.hid (HZ.out _ HB.out).1
    have HBW := Lib.hid (HZ.out _ HB.out).2
    have h1 : ((mkB (rootL L)).toList == [47]) = L.isEmpty := by rw [mkB_toList]; exact rootL_one H3.out.1
    cases hf : hasS ns (rootL L)
    · cases he : L.isEmpty
      · rw [he] at h1
        obtain ⟨M, n, rfl⟩ : ∃ M n, L = M ++ [n] := ⟨L.dropLast, L.getLast (fun e => by simp [e] at he), (List.dropLast_concat_getLast _).symm⟩
        have HST := Lib.hid (stE_snoc hf)
        have HLT := Lib.hid (rootL_shorter M (H3.out.1 n (by simp)).ne)
        have HM : Hid (∀ q ∈ M, NameOk q) := Lib.hid (fun q hq => H3.out.1 q (by simp [hq]))
        clear hf he
        go_wp2_with (first
          | (go_at_call 51; refine (HSP.out M n _ H3.out.1 H3.out.2.1).mono ?_; rintro e w5 ⟨rfl, hb5⟩; have HB5 := Lib.hid (HB.out.trans (hb5.mono HB.out.size)); clear hb5)
          | (go_at_call 27; refine (HAT.out _ _ (HZ.out _ HB5.out).2).mono ?_; rintro e w6 ⟨rfl, hb6⟩; have HB6 := Lib.hid (HB5.out.trans (hb6.mono HB5.out.size)); clear hb6))
        go_roundw
        case rel => exact ⟨M, rfl, rfl, rfl, Lib.hid ⟨HM.out, by have := HLT.out; have := H3.out.2.1; omega, H3.out.2.2.trans HST.out⟩, HB6⟩
        case measure => have := HLT.out; simp only [strLen, mkB_size]; exact this
      · rw [he] at h1
        obtain rfl : L = [] := by simpa using he
        have HST := Lib.hid (stE_nil hf)
        clear hf he
        go_wp2_with (refine wpl_store 28 ?_; intro ee he; refine wpList_store_row he _ _ _ ee W.heap.size (nodeV noneN) rfl rfl 28 (nodeV noneN) HZ1.out (node_size _) rfl (node_one _) ?_)
        refine bodyPost_ret (res_cell_tmp rfl rfl (row_same HZ1.out) (by kernel_rfl) (node_size _)) rfl ?_
        exact ⟨by rw [H3.out.2.2, HST.out]; rfl, below_row HBW.out _ _ (Nat.le_refl _)⟩
    · obtain ⟨hk2, hkp⟩ := (hasS_at HR.out).1 hf
      obtain ⟨k, hkk⟩ : ∃ k, lowS ns (rootL L) = k := ⟨_, rfl⟩
      have hk3 : k < ns.length := by rw [← hkk]; exact hk2
      have HST := Lib.hid (stE_at hk3 hf hkk)
      rw [hkk]
      obtain ⟨q, c, rfl, hN⟩ := HN.out
      obtain ⟨b, off, rfl, hrow⟩ := hN (nonil hk3)
      have c1 := (hrow.below HBW.out).c1 k hk3
      have k0 := cell_at (o := 0) ((HBW.out.block _ (heap_lt HK.out)).trans HK.out) rfl
      have hki : (k : Int) < ns.length := by omega
      clear hk2 hkp hkk hf hN hrow
      cases hd : ns[k].dir
      · rw [hd] at HST c1
        clear hd
        cases he : L.isEmpty <;> rw [he] at h1 <;> clear he
        · skip
          go_wp2_with (refine wpl_store 28 ?_; intro ee he; refine wpList_store_row he _ _ _ ee W.heap.size (nodeV noneN) rfl rfl 28 (nodeV noneN) HZ1.out (node_size _) rfl (node_one _) ?_)
          refine bodyPost_ret (res_cell_tmp rfl rfl (row_same HZ1.out) (by kernel_rfl) (node_size _)) rfl ?_
          exact ⟨by rw [H3.out.2.2, HST.out]; rfl, below_row HBW.out _ _ (Nat.le_refl _)⟩
        · skip
          go_wp2_with (refine wpl_store 28 ?_; intro ee he; refine wpList_store_row he _ _ _ ee W.heap.size (nodeV noneN) rfl rfl 28 (nodeV noneN) HZ1.out (node_size _) rfl (node_one _) ?_)
          refine bodyPost_ret (res_cell_tmp rfl rfl (row_same HZ1.out) (by kernel_rfl) (node_size _)) rfl ?_
          exact ⟨by rw [H3.out.2.2, HST.out]; rfl, below_row HBW.out _ _ (Nat.le_refl _)⟩
      · rw [hd] at HST c1
        clear hd
        cases he : L.isEmpty <;> rw [he] at h1 <;> clear he
        · skip
          go_wp2_with (refine wpl_store 28 ?_; intro ee he; refine wpList_store_row he _ _ _ ee W.heap.size (nodeV noneN) rfl rfl 28 (nodeV noneN) HZ1.out (node_size _) rfl (node_one _) ?_)
          refine bodyPost_ret (res_cell_tmp rfl rfl (row_same HZ1.out) (by kernel_rfl) (node_size _)) rfl ?_
          exact ⟨by rw [H3.out.2.2, HST.out]; rfl, below_row HBW.out _ _ (Nat.le_refl _)⟩
        · skip
          go_wp2_with (refine wpl_store 28 ?_; intro ee he; refine wpList_store_row he _ _ _ ee W.heap.size (nodeV noneN) rfl rfl 28 (nodeV noneN) HZ1.out (node_size _) rfl (node_one _) ?_)
          refine bodyPost_ret (res_cell_tmp rfl rfl (row_same HZ1.out) (by kernel_rfl) (node_size _)) rfl ?_
          exact ⟨by rw [H3.out.2.2, HST.out]; rfl, below_row HBW.out _ _ (Nat.le_refl _)⟩
end Go.Proofs.YtlpgandflkabcaaGreatDoor
