/-
  A tree's keeper: the parent, what is below, the names in a directory.
-/
import Derived.Test.YtlpgandflkabcaaGreatDoorFTrK
import Derived.Test.YtlpgandflkabcaaGreatDoorFTrG
namespace Go.Proofs.YtlpgandflkabcaaGreatDoor
open Go Go.RowKit Go.Shelf
set_option linter.unusedVariables false
set_option linter.unusedSimpArgs false

theorem dirP_path {p : List UInt8} (h : pathB p = true) : pathB (dirP p) = true ∧ (dirP p).length ≤ p.length := by
  obtain ⟨k, m, S⟩ := split_path h
  obtain ⟨L, hL, rfl, hlen⟩ := path_parts h
  have hd : dirP (rootL L) = rootL L.dropLast := by rw [dirP, parts_rootL hL]
  have hle : (dirP (rootL L)).length ≤ (rootL L).length := by rw [← S.dir, List.length_take]; exact Nat.min_le_right _ _
  refine ⟨?_, hle⟩
  rw [hd]
  exact path_rootL (fun q hq => hL q (List.dropLast_subset _ hq)) (by rw [← hd]; omega)
theorem path_len {p : List UInt8} (h : pathB p = true) : p.length ≤ 255 := by
  obtain ⟨L, hL, _, hlen⟩ := path_parts h
  exact hlen
set_option maxRecDepth 100000 in
theorem parent_hit (ns : List NodeD) (hr : RiseS ns) (hlen : ns.length ≤ 1000000) (p : List UInt8) (hp : pathB p = true) (k : Nat) (hk2 : k < ns.length) (hkp : ns[k].path = dirP p) (hkd : ns[k].dir = true) (kb : Nat) (t : TypeId) (v : Value) (nx : Int) (W : World) (hk : W.heap[kb]? = some (.cells (keepV v nx) t)) (hN : NodesV W v ns) :
    Calls Tryz.prog 28 #[.pointer (some ⟨kb, 0, none⟩), .string (mkB p)] W fun e w' => e = .returned (.int .i64 0) ∧ Below W.heap.size W w' := by
  have hd := dirP_path hp
  have hl := path_len hp
  have HS := Lib.hid (fun w => splitp_any p hp w (by omega))
  have HF : Hid (∀ W', Below W.heap.size W W' → Calls Tryz.prog 25 #[.pointer (some ⟨kb, 0, none⟩), .string (mkB (dirP p))] W' fun e w' => e = .returned (.tuple #[.agg (nodeV ns[k]), .int .i64 0]) ∧ Below W'.heap.size W' w') := Lib.hid (fun W' hb => find_hit ns hr hlen (dirP p) hd.1 (by omega) k hk2 hkp kb t v nx W' ((hb.block _ (heap_lt hk)).trans hk) (hN.below hb))
  clear hd hl hr hlen hp hkp hk hN
  go_enter Tryz.func28, Tryz.ntmps28
  go_wp2_with (first
    | (go_at_call 51; refine (HS.out _).mono ?_; rintro e w1 ⟨rfl, hb1⟩; have HB1 := Lib.hid hb1; clear hb1)
    | (go_at_call 25; refine (HF.out _ HB1.out).mono ?_; rintro e w2 ⟨rfl, hb2⟩; have HB2 := Lib.hid hb2; clear hb2))
  go_ret
  have h2 := HB1.out.trans (HB2.out.mono HB1.out.size)
  exact ⟨rfl, h2.alloc h2.size _⟩

/-! ### Below -/
theorem root_suffix {l : List (List UInt8)} (hl : ∀ p ∈ l, NameOk p) (h : l ≠ []) : Lib.hasSuffix (rootL l) [47] = false := by
  obtain ⟨M, n, rfl⟩ : ∃ M n, l = M ++ [n] := ⟨l.dropLast, l.getLast h, (List.dropLast_concat_getLast h).symm⟩
  have hn := hl n (by simp)
  rw [rootL_snoc, Bool.eq_false_iff]
  intro hs
  unfold Lib.hasSuffix at hs
  rw [List.isSuffixOf_iff_suffix] at hs
  obtain ⟨t, ht⟩ := hs
  obtain ⟨q, b, hq⟩ : ∃ q b, n = q ++ [b] := ⟨n.dropLast, n.getLast hn.ne, (List.dropLast_concat_getLast hn.ne).symm⟩
  have h1 : t ++ [47] = (joinL M ++ 47 :: q) ++ [b] := by rw [ht, hq]; simp
  have h2 := (List.append_inj' h1 rfl).2
  have h3 : (47 : UInt8) = b := (List.cons.inj h2).1
  exact hn.slash (by rw [hq, ← h3]; simp)
theorem trim_root {l : List (List UInt8)} (hl : ∀ p ∈ l, NameOk p) : Lib.trimSuffix (rootL l) [47] = joinL l := by
  by_cases h : l = []
  · subst h; rfl
  · rw [Lib.trimSuffix, root_suffix hl h, rootL_of h]; rfl
/-- Is s below a path of these parts? -/
def belowQ (s : List UInt8) (p : List UInt8) : Bool := !(s == p) && (innerL (partsB p)).isPrefixOf s
set_option maxHeartbeats 1000000 in
theorem below_any (s p : List UInt8) (hp : pathB p = true) (w : World) :
    Calls Tryz.prog 32 #[.string (mkB s), .string (mkB p)] w fun e w' => e = .returned (.bool (belowQ s p)) ∧ w' = w := by
  have hl := path_len hp
  obtain ⟨L, hL, hpe, _⟩ := path_parts hp
  have hpp : partsB p = L := by rw [hpe]; exact parts_rootL hL
  have htr : Lib.trimSuffix p [47] = joinL L := by rw [hpe]; exact trim_root hL
  have hz := mkB_size p
  have hjl : (joinL L).length ≤ 255 := by
    have : (joinL L).length ≤ (rootL L).length := by
      unfold rootL; split
      · rename_i e; subst e; simp [joinL]
      · exact Nat.le_refl _
    rw [← hpe] at this
    omega
  have HT : Hid (∀ w, Calls Tryz.prog 82 #[.string (mkB p), .string ⟨#[47]⟩] w fun e w' => e = .returned (.string (mkB (joinL L))) ∧ w' = w) := Lib.hid (fun w => (Tryz.strings_TrimSuffix (mkB p) ⟨#[47]⟩ w (by rw [hz]; omega)).mono fun e w' h => ⟨by rw [h.1]; show Ending.returned (Value.string ⟨(Lib.trimSuffix p [47]).toArray⟩) = _; rw [htr]; rfl, h.2⟩)
  have HP : Hid (∀ w, Calls Tryz.prog 63 #[.string (mkB s), .string (mkB (innerL L))] w fun e w' => e = .returned (.bool ((innerL L).isPrefixOf s)) ∧ w' = w) := Lib.hid (fun w => (Tryz.strings_HasPrefix (mkB s) (mkB (innerL L)) w).mono fun e w' h => ⟨by rw [h.1]; rfl, h.2⟩)
  have hcat : mkB (joinL L) ++ (⟨#[47]⟩ : ByteArray) = mkB (innerL L) := mkB_append (joinL L) [47]
  have hjz := mkB_size (joinL L)
  have hji : ((joinL L).length : Int) ≤ 255 := by omega
  have HI : Hid (∀ w, Calls Tryz.prog 64 #[.string (mkB p)] w fun e w' => e = .returned (.string (mkB (innerL L))) ∧ w' = w) := by
    refine Lib.hid (fun w => ?_)
    clear hp hpe hpp htr hL HP
    go_enter Tryz.func64, Tryz.ntmps64
    go_wp2_with (go_at_call 82; refine (HT.out _).mono ?_; rintro e w' ⟨rfl, rfl⟩)
    go_ret
    exact ⟨rfl, rfl⟩
  have hsp : ((mkB s).toList == (mkB p).toList) = (s == p) := by rw [mkB_toList, mkB_toList]
  have HR : Hid (belowQ s p = (!(s == p) && (innerL L).isPrefixOf s)) := Lib.hid (by rw [belowQ, hpp])
  clear hp hpe hpp htr hL HT hcat hjz hji hjl hz hl
  cases hb : (s == p)
  · rw [hb] at hsp HR
    clear hb
    go_enter Tryz.func32, Tryz.ntmps32
    go_wp2_with (first
      | (go_at_call 64; refine (HI.out _).mono ?_; rintro e w' ⟨rfl, rfl⟩)
      | (go_at_call 63; refine (HP.out _).mono ?_; rintro e w' ⟨rfl, rfl⟩))
    go_ret
    exact ⟨by rw [HR.out]; rfl, rfl⟩
  · rw [hb] at hsp HR
    clear hb
    go_enter Tryz.func32, Tryz.ntmps32
    go_wp2
    go_ret
    exact ⟨by rw [HR.out]; rfl, rfl⟩
theorem filled1_any (x : NodeD) (p : List UInt8) (hp : pathB p = true) (b : Nat) (w : World) (hb : w.cell? ⟨b, 0, none⟩ = some (.string (mkB p))) (hbl : b < w.heap.size) :
    Calls Tryz.prog 60 #[.agg (nodeV x), .pointer (some ⟨b, 0, none⟩)] w fun e w' => e = .returned (.bool (belowQ x.path p)) ∧ Below w.heap.size w w' := by
  have HBL := Lib.hid (fun w => below_any x.path p hp w)
  have hbn : b ≠ w.heap.size := Nat.ne_of_lt hbl
  clear hp
  go_enter Tryz.func60, Tryz.ntmps60
  go_wp2_with (go_at_call 32; refine (HBL.out _).mono ?_; rintro e w' ⟨rfl, rfl⟩)
  go_ret
  exact ⟨rfl, (Below.refl _ _).alloc (Nat.le_refl _) _⟩
theorem any_false {l : List NodeD} {f : NodeD → Bool} (h : ∀ j (hj : j < l.length), j < l.length → f l[j] = false) : l.any f = false := by
  rw [Bool.eq_false_iff]
  intro e
  obtain ⟨x, hx, he⟩ := List.any_eq_true.1 e
  obtain ⟨k, hk, rfl⟩ := List.getElem_of_mem hx
  rw [h k hk hk] at he; cases he
set_option maxHeartbeats 2000000 in
set_option maxRecDepth 100000 in
theorem filled_any (ns : List NodeD) (hlen : ns.length ≤ 1000000) (p : List UInt8) (hp : pathB p = true) (kb : Nat) (t : TypeId) (v : Value) (nx : Int) (W : World) (hk : W.heap[kb]? = some (.cells (keepV v nx) t)) (hN : NodesV W v ns) :
    Calls Tryz.prog 30 #[.pointer (some ⟨kb, 0, none⟩), .string (mkB p)] W fun e w' => e = .returned (.bool (ns.any fun x => belowQ x.path p)) ∧ Below W.heap.size W w' := by
  have hmf : ∀ (fn : Fn) (first cap : Array Value) (w : World), (Instr.makeFunc fn first cap).run Tryz.prog w = .ok (.func fn first cap) w := fun _ _ _ _ => rfl
  have hli : (ns.length : Int) ≤ 1000000 := by omega
  obtain ⟨q, c, rfl, hN0⟩ := hN
  have HN : Hid (NodesV W (.slice q ns.length c) ns) := Lib.hid ⟨q, c, rfl, hN0⟩
  have HI : Hid (∀ (b : Nat) (w : World), Below W.heap.size W w → w.cell? ⟨b, 0, none⟩ = some (.string (mkB p)) → b < w.heap.size → Calls Tryz.prog 43 #[.slice q ns.length c, .func (.func 60) #[] #[.pointer (some ⟨b, 0, none⟩)]] w fun e w' => (∃ i : Int, e = .returned (.int .i64 i) ∧ decide (0 ≤ i) = ns.any fun x => belowQ x.path p) ∧ Below w.heap.size w w') := by
    refine Lib.hid (fun b w hbw hcell hbl => ?_)
    have HC : Hid (∀ (x : NodeD) (w' : World), Below w.heap.size w w' → Calls Tryz.prog 60 #[.agg (nodeV x), .pointer (some ⟨b, 0, none⟩)] w' fun e w2 => e = .returned (.bool (belowQ x.path p)) ∧ Below w'.heap.size w' w2) := Lib.hid (fun x w' h => filled1_any x p hp b w' ((h.cell (p := ⟨b, 0, none⟩) hbl).trans hcell) (Nat.lt_of_lt_of_le hbl h.size))
    have HN2 : Hid (NodesV w (.slice q ns.length c) ns) := Lib.hid (HN.out.below hbw)
    clear hcell hbw hp hN0 hk hlen
    go_enter Tryz.func43, Tryz.ntmps43
    go_wp2
    go_loopw [8] (fun iv wr => ∃ k : Nat, k ≤ ns.length ∧ iv = .int .i64 k ∧ Hid (Below w.heap.size w wr) ∧ Hid (∀ j (hj : j < ns.length), j < k → belowQ ns[j].path p = false)) (fun iv wr => ns.length - (intOf iv).toNat)
    case atStart => exact ⟨0, Nat.zero_le _, rfl, Lib.hid (Below.refl _ _), Lib.hid (fun j _ h => absurd h (Nat.not_lt_zero _))⟩
    case round =>
      obtain ⟨k, hk, rfl, HB, HK⟩ := hrel
      by_cases hlt : k < ns.length
      · obtain ⟨q2, c2', hv, hrw⟩ := HN2.out
        cases hv
        obtain ⟨bb, off, rfl, hrow⟩ := hrw (nonil hlt)
        have hrow2 := hrow.below HB.out
        have c0 := hrow2.c0 k hlt
        have c1 := hrow2.c1 k hlt
        have c2 := hrow2.c2 k hlt
        have c3 := hrow2.c3 k hlt
        have HCK := Lib.hid (HC.out ns[k] wr HB.out)
        clear hrow hrow2 hrw
        cases hn : belowQ ns[k].path p
        · have HNK := Lib.hid hn
          clear hn
          go_wp2_with (go_at_call 60; (with_reducible refine HCK.out.mono ?_); rintro e w2 ⟨rfl, hb2⟩; rw [HNK.out]; have HB2 := Lib.hid (HB.out.trans (hb2.mono HB.out.size)); clear hb2)
          go_roundw
          case rel => exact ⟨k + 1, by omega, by go_num, HB2, Lib.hid (fun j hj hjk => by
            rcases Nat.lt_or_eq_of_le (Nat.le_of_lt_succ hjk) with h | rfl
            · exact HK.out j hj h
            · exact HNK.out)⟩
          case measure => simp [intOf]; omega
        · have HNK := Lib.hid hn
          clear hn
          go_wp2_with (go_at_call 60; (with_reducible refine HCK.out.mono ?_); rintro e w2 ⟨rfl, hb2⟩; rw [HNK.out]; have HB2 := Lib.hid (HB.out.trans (hb2.mono HB.out.size)); clear hb2)
          go_ret
          exact ⟨⟨_, rfl, by rw [List.any_eq_true.2 ⟨_, List.getElem_mem hlt, HNK.out⟩]; simp⟩, HB2.out⟩
      · obtain rfl : k = ns.length := by omega
        go_wp2
        go_ret
        exact ⟨⟨_, rfl, by rw [any_false HK.out]; rfl⟩, HB.out⟩
  have HCF : Hid (∀ (b : Nat) (w : World), Below W.heap.size W w → w.cell? ⟨b, 0, none⟩ = some (.string (mkB p)) → b < w.heap.size → Calls Tryz.prog 59 #[.slice q ns.length c, .func (.func 60) #[] #[.pointer (some ⟨b, 0, none⟩)]] w fun e w' => e = .returned (.bool (ns.any fun x => belowQ x.path p)) ∧ Below w.heap.size w w') := by
    refine Lib.hid (fun b w hbw hcell hbl => ?_)
    have HI2 := Lib.hid (HI.out b w hbw hcell hbl)
    clear hcell hbw hp hN0 hk hlen HI
    go_enter Tryz.func59, Tryz.ntmps59
    go_wp2_with (go_at_call 43; refine HI2.out.mono ?_; rintro e w2 ⟨⟨i, rfl, hi⟩, hb2⟩)
    go_ret
    exact ⟨by rw [← hi]; rfl, hb2⟩
  have k0 := fun t' v' => cell_at (o := 0) ((heap_old W (.cells #[v'] t') kb (heap_lt hk)).trans hk) rfl
  clear hp hN0 hlen HI
  go_enter Tryz.func30, Tryz.ntmps30
  go_wp2_with (go_at_call 59; refine (HCF.out _ _ ((Below.refl _ _).alloc (Nat.le_refl _) _) (cell_at (heap_new _ _ _ rfl) rfl) (by simp only [heap_len]; omega)).mono ?_; rintro e w2 ⟨rfl, hb2⟩)
  go_ret
  exact ⟨rfl, ((Below.refl _ _).alloc (Nat.le_refl _) _).trans (hb2.mono (by simp only [heap_len]; omega))⟩
end Go.Proofs.YtlpgandflkabcaaGreatDoor
