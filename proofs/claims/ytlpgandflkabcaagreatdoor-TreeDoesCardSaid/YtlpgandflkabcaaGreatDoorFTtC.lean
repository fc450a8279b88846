/-
  slices.DeleteFunc over nodes that the call owns: those at a path go. A keeper's drop.
-/
import Derived.Test.YtlpgandflkabcaaGreatDoorFTtA
import Derived.Test.YtlpgandflkabcaaGreatDoorFTrR
import Derived.Test.YtlpgandflkabcaaGreatDoorFSlR
import Derived.Deep.MidRow
namespace Go.Proofs.YtlpgandflkabcaaGreatDoor
open Go Go.RowKit Go.Shelf
set_option linter.unusedVariables false
set_option linter.unusedSimpArgs false

theorem KeptBut.refl (b : Nat) (w : World) : KeptBut b w w := ⟨rfl, rfl, rfl, Nat.le_refl _, fun _ _ _ => rfl⟩
theorem KeptBut.trans {b : Nat} {u v w : World} (h : KeptBut b u v) (k : KeptBut b v w) : KeptBut b u w := ⟨k.os.trans h.os, k.tape.trans h.tape, k.output.trans h.output, Nat.le_trans h.size k.size, fun i hi hn => (k.block i (Nat.lt_of_lt_of_le hi h.size) hn).trans (h.block i hi hn)⟩
theorem KeptBut.set (b o : Nat) (v : Value) (w : World) : KeptBut b w (w.setCell ⟨b, o, none⟩ v) := ⟨rfl, rfl, rfl, by rw [heap_set_len]; exact Nat.le_refl _, fun k _ hk => heap_set_ne _ _ _ _ _ hk⟩
theorem nodeVs_set (x : NodeD) : ∀ (R : List NodeD) (i : Nat), i < R.length → nodeVs (R.set i x) = ((((nodeVs R).set (i * 4) (.string (mkB x.path))).set (i * 4 + 1) (.bool x.dir)).set (i * 4 + 2) (.string (mkB x.data))).set (i * 4 + 3) (.int .i64 x.id)
  | c :: l, 0, _ => rfl
  | c :: l, i + 1, h => by
    rw [List.set_cons_succ, nodeVs_cons, nodeVs_cons, nodeVs_set x l i (by simpa using h), show (i + 1) * 4 = i * 4 + 1 + 1 + 1 + 1 by omega]
    rfl
/-- A node stored over another one, in a row that the call owns. -/
theorem own_setNode {w : World} {B g n cap i : Nat} {R : List NodeD} (x : NodeD) (hR : R.length = n) (hi : i < n) (h : w.ownsRow B 28 4 (.slice (some ⟨g, 0, none⟩) n cap) n (nodeVs R)) :
    w.there g (i * 4) 4 ∧ (w.setCells g (i * 4) (nodeV x).toList).ownsRow B 28 4 (.slice (some ⟨g, 0, none⟩) n cap) n (nodeVs (R.set i x)) ∧ KeptBut g w (w.setCells g (i * 4) (nodeV x).toList) := by
  rcases h.2 with ⟨hv, _⟩ | ⟨g', cap', cur, hv, hB, hg, hn, hm, hs, ht⟩
  · cases hv
  cases hv
  refine ⟨fun j hj => ⟨?_, free_at hg⟩, ⟨?_, .inr ⟨g, cap, _, rfl, hB, heap_set (heap_set (heap_set (heap_set hg))), hn, hm, by simp only [Array.size_setIfInBounds]; exact hs, ?_⟩⟩, (((KeptBut.set g _ _ _).trans (KeptBut.set g _ _ _)).trans (KeptBut.set g _ _ _)).trans (KeptBut.set g _ _ _)⟩
  · have hlt : i * 4 + j < cur.size := by omega
    rw [cell_at hg (Array.getElem?_eq_getElem hlt)]; rfl
  · rw [nodeVs_len, List.length_set, hR]
  · rw [nodeVs_set x R i (by omega), ← ht]
    simp only [Array.toList_setIfInBounds, List.take_set]
/-- A path stored over another one. -/
theorem nodeVs_path (s : List UInt8) : ∀ (R : List NodeD) (i : Nat) (h : i < R.length), nodeVs (R.set i { R[i] with path := s }) = (nodeVs R).set (i * 4) (.string (mkB s))
  | c :: l, 0, _ => rfl
  | c :: l, i + 1, h => by
    have := nodeVs_path s l i (by simpa using h)
    rw [List.set_cons_succ, nodeVs_cons, nodeVs_cons, List.getElem_cons_succ, this, show (i + 1) * 4 = i * 4 + 1 + 1 + 1 + 1 by omega]
    rfl
theorem own_setPath {w : World} {B g n cap i : Nat} {R : List NodeD} (s : List UInt8) (hR : R.length = n) (hi : i < R.length) (h : w.ownsRow B 28 4 (.slice (some ⟨g, 0, none⟩) n cap) n (nodeVs R)) :
    (∃ u, w.cell? ⟨g, i * 4, none⟩ = some u) ∧ w.frozen? ⟨g, i * 4, none⟩ = false ∧ (w.setCell ⟨g, i * 4, none⟩ (.string (mkB s))).ownsRow B 28 4 (.slice (some ⟨g, 0, none⟩) n cap) n (nodeVs (R.set i { R[i] with path := s })) := by
  rcases h.2 with ⟨hv, _⟩ | ⟨g', cap', cur, hv, hB, hg, hn, hm, hs, ht⟩
  · cases hv
  cases hv
  refine ⟨⟨_, cell_at hg (Array.getElem?_eq_getElem (by omega))⟩, free_at hg, ?_, .inr ⟨g, cap, _, rfl, hB, heap_set hg, hn, hm, by simp only [Array.size_setIfInBounds]; exact hs, ?_⟩⟩
  · rw [nodeVs_len, List.length_set, hR]
  · rw [nodeVs_path, ← ht]
    simp only [Array.toList_setIfInBounds, List.take_set]

/-! ### Which go -/
def dropN (ns : List NodeD) (p : List UInt8) : List NodeD := ns.filter fun x => !(x.path == p)
theorem dropN_none {ns : List NodeD} {p : List UInt8} (h : ∀ j (hj : j < ns.length), (ns[j].path == p) = false) : dropN ns p = ns := by
  rw [dropN, List.filter_eq_self]
  intro x hx
  obtain ⟨j, hj, rfl⟩ := List.getElem_of_mem hx
  rw [h j hj]; rfl
theorem dropN_take {ns : List NodeD} {p : List UInt8} {k : Nat} (hk : k < ns.length) : dropN (ns.take (k + 1)) p = dropN (ns.take k) p ++ if (ns[k].path == p) = true then [] else [ns[k]] := by
  rw [List.take_succ_eq_append_getElem hk, dropN, dropN, List.filter_append]
  congr 1
  cases h : (ns[k].path == p) <;> simp [h]
theorem dropN_le (ns : List NodeD) (p : List UInt8) : (dropN ns p).length ≤ ns.length := List.length_filter_le _ _
theorem take_set_next {α : Type} {R : List α} {i : Nat} {x : α} (hi : i < R.length) : (R.set i x).take (i + 1) = R.take i ++ [x] := by
  rw [List.take_succ_eq_append_getElem (by simpa using hi), List.getElem_set_self, List.take_set_of_le (Nat.le_refl _)]
theorem drop_set_next {α : Type} {R : List α} {i j : Nat} {x : α} (hij : i < j) : (R.set i x).drop j = R.drop j := by
  rw [List.drop_set_of_lt hij]
theorem getElem_of_drop {α : Type} {R S : List α} {j : Nat} (h : R.drop j = S.drop j) (h1 : j < R.length) (h2 : j < S.length) : R[j] = S[j] := by
  have := congrArg (fun l => l[0]?) h
  simp only [List.getElem?_drop, Nat.add_zero, List.getElem?_eq_getElem h1, List.getElem?_eq_getElem h2, Option.some.injEq] at this
  exact this
theorem drop1_any (x : NodeD) (p : List UInt8) (b : Nat) (w : World) (hb : w.cell? ⟨b, 0, none⟩ = some (.string (mkB p))) (hbl : b < w.heap.size) :
    Calls Tryz.prog 62 #[.agg (nodeV x), .pointer (some ⟨b, 0, none⟩)] w fun e w' => e = .returned (.bool (x.path == p)) ∧ Below w.heap.size w w' := by
  have hbn : b ≠ w.heap.size := Nat.ne_of_lt hbl
  have h1 : ((mkB x.path).toList == (mkB p).toList) = (x.path == p) := by rw [mkB_toList, mkB_toList]
  generalize (x.path == p) = r at h1 ⊢
  go_enter Tryz.func62, Tryz.ntmps62
  go_wp2
  go_ret
  exact ⟨by rw [← h1]; rfl, (Below.refl _ _).alloc (Nat.le_refl _) _⟩
set_option maxHeartbeats 2000000 in
set_option maxRecDepth 100000 in
theorem indexD_any (ns : List NodeD) (hlen : ns.length ≤ 1000000) (p : List UInt8) (b : Nat) (v : Value) (w : World) (hN : NodesV w v ns) (hcell : w.cell? ⟨b, 0, none⟩ = some (.string (mkB p))) (hbl : b < w.heap.size) :
    Calls Tryz.prog 43 #[v, .func (.func 62) #[] #[.pointer (some ⟨b, 0, none⟩)]] w fun e w' => (∃ i : Int, e = .returned (.int .i64 i) ∧ ((i = -1 ∧ ∀ j (hj : j < ns.length), (ns[j].path == p) = false) ∨ ∃ k, ∃ hk : k < ns.length, i = k ∧ (ns[k].path == p) = true ∧ ∀ j (hj : j < ns.length), j < k → (ns[j].path == p) = false)) ∧ Below w.heap.size w w' := by
  have hli : (ns.length : Int) ≤ 1000000 := by omega
  obtain ⟨q, c, rfl, hN0⟩ := hN
  have HC : Hid (∀ (x : NodeD) (w' : World), Below w.heap.size w w' → Calls Tryz.prog 62 #[.agg (nodeV x), .pointer (some ⟨b, 0, none⟩)] w' fun e w2 => e = .returned (.bool (x.path == p)) ∧ Below w'.heap.size w' w2) := Lib.hid (fun x w' h => drop1_any x p b w' ((h.cell (p := ⟨b, 0, none⟩) hbl).trans hcell) (Nat.lt_of_lt_of_le hbl h.size))
  have HN2 : Hid (NodesV w (.slice q ns.length c) ns) := Lib.hid ⟨q, c, rfl, hN0⟩
  clear hcell hN0 hlen
  go_enter Tryz.func43, Tryz.ntmps43
  go_wp2
  go_loopw [8] (fun iv wr => ∃ k : Nat, k ≤ ns.length ∧ iv = .int .i64 k ∧ Hid (Below w.heap.size w wr) ∧ Hid (∀ j (hj : j < ns.length), j < k → (ns[j].path == p) = false)) (fun iv wr => ns.length - (intOf iv).toNat)
  case atStart => exact ⟨0, Nat.zero_le _, rfl, Lib.hid (Below.refl _ _), Lib.hid (fun j _ h => absurd h (Nat.not_lt_zero _))⟩
  case round =>
    obtain ⟨k, hk, rfl, HB, HK⟩ := hrel
    by_cases hlt : k < ns.length
    · obtain ⟨q2, c2', hv, hrw⟩ := HN2.out
      cases hv
      obtain ⟨bb, off, rfl, hrow⟩ := hrw (nonil hlt)
      have hrow2 := hrow.below HB.out
      have c0 := hrow2.c0 k hlt
      have c1 := hrow2.c1 k hlt
      have c2 := hrow2.c2 k hlt
      have c3 := hrow2.c3 k hlt
      have HCK := Lib.hid (HC.out ns[k] wr HB.out)
      clear hrow hrow2 hrw
      cases hn : (ns[k].path == p)
      · have HNK := Lib.hid hn
        clear hn
        go_wp2_with (go_at_call 62; (with_reducible refine HCK.out.mono ?_); rintro e w2 ⟨rfl, hb2⟩; rw [HNK.out]; have HB2 := Lib.hid (HB.out.trans (hb2.mono HB.out.size)); clear hb2)
        go_roundw
        case rel => exact ⟨k + 1, by omega, by go_num, HB2, Lib.hid (fun j hj hjk => by
          rcases Nat.lt_or_eq_of_le (Nat.le_of_lt_succ hjk) with h | rfl
          · exact HK.out j hj h
          · exact HNK.out)⟩
        case measure => simp [intOf]; omega
      · have HNK := Lib.hid hn
        clear hn
        go_wp2_with (go_at_call 62; (with_reducible refine HCK.out.mono ?_); rintro e w2 ⟨rfl, hb2⟩; rw [HNK.out]; have HB2 := Lib.hid (HB.out.trans (hb2.mono HB.out.size)); clear hb2)
        go_ret
        exact ⟨⟨_, rfl, .inr ⟨k, hlt, rfl, HNK.out, HK.out⟩⟩, HB2.out⟩
    · obtain rfl : k = ns.length := by omega
      go_wp2
      go_ret
      exact ⟨⟨_, rfl, .inl ⟨rfl, fun j hj => HK.out j hj hj⟩⟩, HB.out⟩
theorem infoTN : (Tryz.prog.info? 28).map (fun i => (i.zero, i.size, i.bytes)) = some (some (.agg #[.string ⟨#[]⟩, .bool false, .string ⟨#[]⟩, .int .i64 0]), 4, 48) := by kernel_rfl
theorem zeroTN : ∀ w, (zeroValue 28).run Tryz.prog w = .ok (.agg #[.string ⟨#[]⟩, .bool false, .string ⟨#[]⟩, .int .i64 0]) w := fun w => by
  obtain ⟨i0, hi, hz0, hz1, hz2⟩ := info_parts infoTN
  simp [zeroValue, typeInfo, hi, hz0]
/-- The row that is left: cut at i, what stands behind set to nought. -/
theorem own_clear {w : World} {B g n cap i : Nat} {R : List NodeD} (hR : R.length = n) (hi : i < n) (h : w.ownsRow B 28 4 (.slice (some ⟨g, 0, none⟩) n cap) n (nodeVs R)) :
    ∃ R2, (∀ ty, (Builtin.clear_ #[22] ty #[.slice (some ⟨g, i * 4, none⟩) (n - i) (cap - i)]).run Tryz.prog w = .ok (.tuple #[]) (w.setRow g R2)) ∧ (w.setRow g R2).ownsRow B 28 4 (.slice (some ⟨g, 0, none⟩) i cap) i (nodeVs (R.take i)) ∧ KeptBut g w (w.setRow g R2) ∧ n ≤ cap ∧ cap ≤ maxLen := by
  rcases h.2 with ⟨hv, _⟩ | ⟨g', cap', cur, hv, hB, hg, hn, hm, hs, ht⟩
  · cases hv
  cases hv
  obtain ⟨Z, hZ⟩ : ∃ Z, Z = Builtin.zeroCells (Value.cells (.agg #[.string ⟨#[]⟩, .bool false, .string ⟨#[]⟩, .int .i64 0])) (n - i) := ⟨_, rfl⟩
  have hZl : Z.size = (n - i) * 4 := by rw [hZ, size_zeroCells]; rfl
  have hZ1 : ∀ u ∈ Z.toList, u.oneCell' = true := by
    rw [hZ]; exact zeroCells_one (by intro u hu; simp [Value.cells] at hu; rcases hu with rfl | rfl | rfl | rfl <;> rfl) _
  obtain ⟨R2, hR2⟩ : ∃ R2, R2 = (cur.toList.take (i * 4) ++ Z.toList ++ cur.toList.drop (i * 4 + Z.size)).toArray := ⟨_, rfl⟩
  have hl1 : (cur.toList.take (i * 4)).length = i * 4 := by rw [List.length_take, Array.length_toList, hs]; omega
  refine ⟨R2, fun ty => ?_, ⟨by rw [nodeVs_len, List.length_take, hR]; congr 1; omega, .inr ⟨g, cap, R2, rfl, hB, row_same hg, by omega, hm, ?_, ?_⟩⟩, ⟨rfl, rfl, rfl, by rw [row_len]; exact Nat.le_refl _, fun k _ hk => row_ne _ _ _ _ hk⟩, hn, hm⟩
  · have hz := run_clear_rowK (P := Tryz.prog) w 22 28 ty _ Tryz.underlying22 zeroTN g (i * 4) (n - i) (cap - i) (by omega) cur hg (by rw [← hZ]; exact hZ1) (by rw [← hZ, hZl, hs]; omega)
    rw [← hZ, ← hR2] at hz
    exact hz
  · rw [hR2]
    simp only [List.size_toArray, List.length_append, List.length_drop, Array.length_toList, hl1, hZl, hs]
    omega
  · rw [hR2, List.append_assoc, List.take_append_of_le_length (by omega), List.take_of_length_le (by omega), nodeVs_take, ← ht, List.take_take]
    congr 1
    omega
set_option maxHeartbeats 4000000 in
set_option maxRecDepth 100000 in
theorem delF_any (ns : List NodeD) (hlen : ns.length ≤ 1000000) (hne : 0 < ns.length) (p : List UInt8) (b B : Nat) (v : Value) (w : World) (hO : w.ownsRow B 28 4 v ns.length (nodeVs ns)) (hcell : w.cell? ⟨b, 0, none⟩ = some (.string (mkB p))) (hbB : b < B) (hBw : B ≤ w.heap.size) :
    Calls Tryz.prog 61 #[v, .func (.func 62) #[] #[.pointer (some ⟨b, 0, none⟩)]] w fun e w' => ∃ v', e = .returned v' ∧ w'.ownsRow B 28 4 v' (dropN ns p).length (nodeVs (dropN ns p)) ∧ Below B w w' := by
  have HIX := Lib.hid (indexD_any ns hlen p b v w (nodesV_of_own hO) hcell (by omega))
  have hB0 := hO.2
  rcases hB0 with ⟨_, h0⟩ | ⟨g, cap, cur0, rfl, hBg, hg0, hn0, hm0, hs0, ht0⟩
  · omega
  have hgw := heap_lt hg0
  have HC : Hid (∀ (x : NodeD) (w' : World), Below B w w' → Calls Tryz.prog 62 #[.agg (nodeV x), .pointer (some ⟨b, 0, none⟩)] w' fun e w2 => e = .returned (.bool (x.path == p)) ∧ Below w'.heap.size w' w2) := Lib.hid (fun x w' h => drop1_any x p b w' ((h.cell (p := ⟨b, 0, none⟩) hbB).trans hcell) (Nat.lt_of_lt_of_le (Nat.lt_of_lt_of_le hbB hBw) h.size))
  have HO := Lib.hid hO
  have hli : (ns.length : Int) ≤ 1000000 := by omega
  have hci : (ns.length : Int) ≤ cap := by omega
  have hc63 : cap ≤ 9223372036854775807 := by unfold maxLen at hm0; exact hm0
  clear hO hcell hg0 hm0 hs0 ht0 hlen
  go_enter Tryz.func61, Tryz.ntmps61
  go_upto_region 2 with (go_at_call 43; refine HIX.out.mono ?_; rintro e w1 ⟨⟨i, rfl, hi⟩, hb1⟩; have HB1 := Lib.hid (hb1.mono hBw); have HO1 := Lib.hid (ownsRow_below HO.out hb1); have HI := Lib.hid hi; clear hb1 hi)
  rcases HI.out with ⟨rfl, hno⟩ | ⟨k, hk, rfl, hkp, hno⟩
  · have HD : Hid (dropN ns p = ns) := Lib.hid (dropN_none hno)
    clear hno HI
    go_wp2
    go_ret
    exact ⟨_, rfl, by rw [HD.out]; exact HO1.out, HB1.out⟩
  · have HD : Hid (dropN (ns.take (k + 1)) p = ns.take k) := Lib.hid (by
      rw [dropN_take hk, if_pos hkp, List.append_nil]
      refine dropN_none (fun j hj => ?_)
      rw [List.length_take] at hj
      rw [List.getElem_take]
      exact hno j (by omega) (by omega))
    have hkm : ((k : Int) == -1) = false := beq_eq_false_iff_ne.2 (by omega)
    have hki : (k : Int) < ns.length := by omega
    clear hno hkp HI
    go_wp2
    go_loopw [5, 6] (fun iv jv wr => ∃ i j : Nat, ∃ R : List NodeD, i < j ∧ j ≤ ns.length ∧ iv = .int .i64 i ∧ jv = .int .i64 j ∧ Hid (R.length = ns.length ∧ R.take i = dropN (ns.take j) p ∧ R.drop j = ns.drop j ∧ i = (dropN (ns.take j) p).length) ∧ Hid (wr.ownsRow B 28 4 (.slice (some ⟨g, 0, none⟩) ns.length cap) ns.length (nodeVs R)) ∧ Hid (Below B w wr)) (fun _ jv _ => ns.length - (intOf jv).toNat)
    case atStart => exact ⟨k, k + 1, ns, by omega, by omega, rfl, by go_num, Lib.hid ⟨rfl, HD.out.symm, rfl, by rw [HD.out, List.length_take]; omega⟩, HO1, HB1⟩
    case round =>
      obtain ⟨i, j, R, hij, hj, rfl, rfl, HR, HOR, HB⟩ := hrel
      by_cases hlt : j < ns.length
      · have hjR : j < R.length := by rw [HR.out.1]; exact hlt
        have HX : Hid (R[j] = ns[j]) := Lib.hid (getElem_of_drop HR.out.2.2.1 hjR hlt)
        obtain ⟨q', c', hv', hrow'⟩ := nodesV_of_own (by have := HOR.out; rw [← HR.out.1] at this; exact this)
        cases hv'
        obtain ⟨b', off', he', hrow⟩ := hrow' (nonil hjR)
        cases he'
        have c0 := hrow.c0 j hjR
        have c1 := hrow.c1 j hjR
        have c2 := hrow.c2 j hjR
        have c3 := hrow.c3 j hjR
        rw [HX.out] at c0 c1 c2 c3
        simp only [Nat.zero_add] at c0 c1 c2 c3
        have HBg : Hid (g < wr.heap.size) := Lib.hid hrow.lt
        have HCK := Lib.hid (HC.out ns[j] (wr.alloc (.cells (nodeV ns[j]) 28)) (HB.out.alloc (Nat.le_trans hBw HB.out.size) _))
        have HTK := Lib.hid (dropN_take (p := p) hlt)
        have hji : (j : Int) < ns.length := by omega
        clear hrow hrow'
        cases hn : (ns[j].path == p)
        · rw [hn] at HCK HTK
          have HTK2 : Hid (dropN (ns.take (j + 1)) p = dropN (ns.take j) p ++ [ns[j]]) := Lib.hid HTK.out
          clear hn
          obtain ⟨W1, hW1⟩ : ∃ W1, W1 = wr.alloc (.cells (nodeV ns[j]) 28) := ⟨_, rfl⟩
          have HG2 : Hid (∀ w2, Below W1.heap.size W1 w2 → w2.heap[wr.heap.size]? = some (.cells (nodeV ns[j]) 28) ∧ Below B w w2 ∧ w2.there g (i * 4) 4 ∧ (w2.setCells g (i * 4) (nodeV ns[j]).toList).ownsRow B 28 4 (.slice (some ⟨g, 0, none⟩) ns.length cap) ns.length (nodeVs (R.set i ns[j])) ∧ Below B w (w2.setCells g (i * 4) (nodeV ns[j]).toList)) := Lib.hid (fun w2 hb2 => by
            rw [hW1] at hb2
            have h2 : Below B w w2 := (HB.out.alloc (Nat.le_trans hBw HB.out.size) _).trans (hb2.mono (by have := HB.out.size; simp only [heap_len]; omega))
            obtain ⟨k1, k2, k3⟩ := own_setNode (i := i) ns[j] HR.out.1 (by omega) (ownsRow_below (HOR.out.alloc _) hb2)
            exact ⟨(hb2.block _ (by simp only [heap_len]; omega)).trans (heap_new _ _ _ rfl), h2, k1, k2, h2.trans (k3.below hBg (Nat.le_trans hBw h2.size))⟩)
          have hii : (i : Int) < ns.length := by omega
          go_upto_region 9 with (go_at_call 62; (with_reducible refine HCK.out.mono ?_); rintro e w2 ⟨rfl, hb2⟩; have HX2 := Lib.hid (HG2.out w2 (by rw [hW1]; exact hb2)); have z0 := cell_at (o := 0) HX2.out.1 rfl; have z1 := cell_at (o := 1) HX2.out.1 rfl; have z2 := cell_at (o := 2) HX2.out.1 rfl; have z3 := cell_at (o := 3) HX2.out.1 rfl; clear hb2)
          go_wp2_with (refine wpl_store 28 ?_; intro ee he; refine wpList_store_mid he _ _ _ ee g (i * 4) (nodeV ns[j]) (by simp [Act.eval, Act.put]) rfl HX2.out.2.2.1 (node_size _) (node_one _) ?_)
          go_roundw
          case rel => exact ⟨i + 1, j + 1, R.set i ns[j], by omega, by omega, by go_num, by go_num, Lib.hid ⟨by rw [List.length_set]; exact HR.out.1, by rw [take_set_next (by rw [HR.out.1]; omega), HR.out.2.1, HTK2.out], by rw [drop_set_next (by omega)]; have := congrArg (List.drop 1) HR.out.2.2.1; simpa [List.drop_drop] using this, by rw [HTK2.out, List.length_append, ← HR.out.2.2.2]; rfl⟩, Lib.hid HX2.out.2.2.2.1, Lib.hid HX2.out.2.2.2.2⟩
          case measure => simp [intOf]; omega
        · rw [hn] at HCK HTK
          have HTK2 : Hid (dropN (ns.take (j + 1)) p = dropN (ns.take j) p) := Lib.hid (by rw [HTK.out, if_pos rfl, List.append_nil])
          clear hn
          go_wp2_with (go_at_call 62; (with_reducible refine HCK.out.mono ?_); rintro e w2 ⟨rfl, hb2⟩; have HB2 : Hid (Below B w w2) := Lib.hid ((HB.out.alloc (Nat.le_trans hBw HB.out.size) _).trans (hb2.mono (by have := HB.out.size; simp only [heap_len]; omega))); have HO2 := Lib.hid (ownsRow_below (HOR.out.alloc _) hb2); clear hb2)
          go_roundw
          case rel => exact ⟨i, j + 1, R, by omega, by omega, rfl, by go_num, Lib.hid ⟨HR.out.1, by rw [HTK2.out]; exact HR.out.2.1, by have := congrArg (List.drop 1) HR.out.2.2.1; simpa [List.drop_drop] using this, by rw [HTK2.out]; exact HR.out.2.2.2⟩, HO2, HB2⟩
          case measure => simp [intOf]; omega
      · obtain rfl : j = ns.length := by omega
        obtain ⟨R2, hcl, ho2, hk2, hn2, hm2⟩ := own_clear HR.out.1 hij HOR.out
        have HE : Hid (R.take i = dropN ns p) := Lib.hid (by have := HR.out.2.1; rwa [List.take_length] at this)
        have HL : Hid (i = (dropN ns p).length) := Lib.hid (by have := HR.out.2.2.2; rwa [List.take_length] at this)
        have HF : Hid ((wr.setRow g R2).ownsRow B 28 4 (.slice (some ⟨g, 0, none⟩) i cap) (dropN ns p).length (nodeVs (dropN ns p)) ∧ Below B w (wr.setRow g R2)) := Lib.hid ⟨by rw [HE.out] at ho2; rwa [← HL.out], HB.out.trans (hk2.below hBg (Nat.le_trans hBw HB.out.size))⟩
        have hic : i ≤ cap := by omega
        have hii : (i : Int) ≤ ns.length := by omega
        clear ho2 hk2
        go_wp2
        go_ret
        exact ⟨_, rfl, HF.out.1, HF.out.2⟩
set_option maxRecDepth 100000 in
theorem drop_any (ns : List NodeD) (hlen : ns.length ≤ 1000) (hne : 0 < ns.length) (p : List UInt8) (kb : Nat) (t : TypeId) (v : Value) (nx : Int) (W : World) (hk : W.heap[kb]? = some (.cells (keepV v nx) t)) (hN : NodesV W v ns) :
    Calls Tryz.prog 31 #[.pointer (some ⟨kb, 0, none⟩), .string (mkB p)] W fun e w' => e = .returned (.tuple #[]) ∧ KeptBut kb W w' ∧ ∃ v', w'.heap[kb]? = some (.cells (keepV v' nx) t) ∧ w'.ownsRow W.heap.size 28 4 v' (dropN ns p).length (nodeVs (dropN ns p)) := by
  have hmf : ∀ (fn : Fn) (first cap : Array Value) (w : World), (Instr.makeFunc fn first cap).run Tryz.prog w = .ok (.func fn first cap) w := fun _ _ _ _ => rfl
  obtain ⟨q, c, rfl, hN0⟩ := hN
  have hN : NodesV W (.slice q ns.length c) ns := ⟨q, c, rfl, hN0⟩
  have hkb := heap_lt hk
  have HCL : Hid (∀ W', Below W.heap.size W W' → Calls Tryz.prog 45 #[.slice q ns.length c] W' fun e w' => ∃ v', e = .returned v' ∧ w'.ownsRow W'.heap.size 28 4 v' ns.length (nodeVs ns) ∧ Below W'.heap.size W' w') := Lib.hid (fun W' hb => cloneN_any ns (by omega) _ W' (hN.below hb))
  have k0 := fun t' v' => cell_at (o := 0) ((heap_old W (.cells #[v'] t') kb hkb).trans hk) rfl
  clear hN hN0
  go_enter Tryz.func31, Tryz.ntmps31
  obtain ⟨W1, hW1⟩ : ∃ W1, W1 = W.alloc (.cells #[.string (mkB p)] 9) := ⟨_, rfl⟩
  have HW1 : Hid (Below W.heap.size W W1 ∧ W1.heap.size = W.heap.size + 1 ∧ W1.cell? ⟨W.heap.size, 0, none⟩ = some (.string (mkB p)) ∧ W1.heap[kb]? = some (.cells (keepV (.slice q ns.length c) nx) t)) := Lib.hid (by
    rw [hW1]
    exact ⟨(Below.refl _ _).alloc (Nat.le_refl _) _, heap_len _ _, cell_at (heap_new _ _ _ rfl) rfl, (heap_old _ _ _ hkb).trans hk⟩)
  have HKB := Lib.hid hkb
  clear hk hkb
  go_upto_region 1 with fail
  rw [← hW1]
  have k1 := cell_at (o := 0) HW1.out.2.2.2 rfl
  clear hW1 k0
  go_wp2_with (first
    | (go_at_call 45; refine (HCL.out _ HW1.out.1).mono ?_; rintro e w2 ⟨v2, rfl, ho2, hb2⟩; have HB2 := Lib.hid hb2; have HO2 := Lib.hid ho2; clear hb2 ho2)
    | (go_at_call 61; refine (delF_any ns (by omega) hne p W.heap.size (W.heap.size + 1) v2 w2 (ownsRow_le HO2.out (by rw [HW1.out.2.1]; exact Nat.le_refl _)) ((HB2.out.cell (p := ⟨W.heap.size, 0, none⟩) (by show W.heap.size < _; rw [HW1.out.2.1]; omega)).trans HW1.out.2.2.1) (by omega) (by have := HB2.out.size; rw [HW1.out.2.1] at this; exact this)).mono ?_; rintro e w3 ⟨v3, rfl, ho3, hb3⟩
       have hB13 : Below (W.heap.size + 1) W1 w3 := (HB2.out.mono (by rw [HW1.out.2.1]; exact Nat.le_refl _)).trans hb3
       have hkf : w3.heap[kb]? = some (.cells (keepV (.slice q ns.length c) nx) t) := (hB13.block _ (by have := HKB.out; omega)).trans HW1.out.2.2.2
       have kc := cell_at (o := 0) hkf rfl
       have kz : w3.frozen? ⟨kb, 0, none⟩ = false := free_at hkf
       obtain ⟨q3, c3, rfl⟩ := nodesV_slice (nodesV_of_own ho3)
       have HO3 := Lib.hid ho3
       have HK3 := Lib.hid hkf
       have HB3 := Lib.hid hB13
       clear ho3 hb3 hB13 hkf))
  go_end0
  have hkb := HKB.out
  refine ⟨rfl, ?_, _, heap_set HK3.out, ownsRow_above (ownsRow_le HO3.out (by omega)) (heap_set_len _ _ _) (fun k hk => heap_set_ne _ _ _ _ _ (by omega))⟩
  exact ⟨HB3.out.os.trans HW1.out.1.os, HB3.out.tape.trans HW1.out.1.tape, HB3.out.output.trans HW1.out.1.output, by rw [heap_set_len]; have := HB3.out.size; rw [HW1.out.2.1] at this; omega, fun k hk hkne => by rw [heap_set_ne _ _ _ _ _ hkne, HB3.out.block _ (by omega)]; exact HW1.out.1.block _ hk⟩
end Go.Proofs.YtlpgandflkabcaaGreatDoor
