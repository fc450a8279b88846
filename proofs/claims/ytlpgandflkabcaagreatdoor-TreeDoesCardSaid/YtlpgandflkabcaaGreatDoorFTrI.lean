/-
  A path from the root on, by the program: the long way.
-/
import Derived.Test.YtlpgandflkabcaaGreatDoorFTrH
namespace Go.Proofs.YtlpgandflkabcaaGreatDoor
open Go Go.RowKit Go.Shelf
set_option linter.unusedVariables false
set_option linter.unusedSimpArgs false
attribute [local go_sem] Oper.semAt_some

/-- Where Norm's walk stands: its two results' boxes, and the list of parts. -/
structure NormAt (w : World) (st : List (List UInt8)) (W : World) : Prop where
  s : Boxed W w.heap.size 9 (.string ⟨#[]⟩)
  e : Boxed W (w.heap.size + 1) 29 (.int .i64 0)
  l : ∃ v, Boxed W (w.heap.size + 1 + 1) 49 v ∧ W.ownsRow (w.heap.size + 3) 9 1 v st.length (strVs st)
  b : Below w.heap.size w W
theorem ownsRow_le {W : World} {B B' : Nat} {e : TypeId} {size : Nat} {v : Value} {k : Nat} {xs : List Value} (h : W.ownsRow B e size v k xs) (hB : B' ≤ B) : W.ownsRow B' e size v k xs := by
  refine ⟨h.1, ?_⟩
  rcases h.2 with h | ⟨g, cap, cur, rfl, hb, hr⟩
  · exact .inl h
  · exact .inr ⟨g, cap, cur, rfl, Nat.le_trans hB hb, hr⟩
theorem ownsRow_below {W W' : World} {B : Nat} {e : TypeId} {size : Nat} {v : Value} {k : Nat} {xs : List Value} (h : W.ownsRow B e size v k xs) (hb : Below W.heap.size W W') : W'.ownsRow B e size v k xs := by
  refine ⟨h.1, ?_⟩
  rcases h.2 with h | ⟨g, cap, cur, rfl, hB, hg, hr⟩
  · exact .inl h
  · exact .inr ⟨g, cap, cur, rfl, hB, (hb.block _ (heap_lt hg)).trans hg, hr⟩
theorem boxed_below {W W' : World} {B : Nat} {t : TypeId} {v : Value} (h : Boxed W B t v) (hb : Below W.heap.size W W') : Boxed W' B t v := (hb.block _ (Boxed.lt h)).trans h
theorem ownsRow_slice {W : World} {B : Nat} {e : TypeId} {size : Nat} {v : Value} {k : Nat} {xs : List Value} (h : W.ownsRow B e size v k xs) : ∃ p n c, v = .slice p n c := by
  rcases h.2 with ⟨rfl, _⟩ | ⟨g, cap, cur, rfl, _⟩
  · exact ⟨_, _, _, rfl⟩
  · exact ⟨_, _, _, rfl⟩
theorem NormAt.below {w W W' : World} {st : List (List UInt8)} (h : NormAt w st W) (hb : Below W.heap.size W W') : NormAt w st W' := by
  obtain ⟨v, h1, h2⟩ := h.l
  exact ⟨boxed_below h.s hb, boxed_below h.e hb, ⟨v, boxed_below h1 hb, ownsRow_below h2 hb⟩, h.b.trans (hb.mono h.b.size)⟩
theorem NormAt.store {w W : World} {st st' : List (List UInt8)} {v : Value} (h : NormAt w st W) (hown : W.ownsRow (w.heap.size + 3) 9 1 v st'.length (strVs st')) : NormAt w st' (W.setCell ⟨w.heap.size + 1 + 1, 0, none⟩ v) := by
  obtain ⟨v0, h1, h2⟩ := h.l
  refine ⟨h.s.other (by omega) v, h.e.other (by omega) v, ⟨v, h1.set v, hown.kept (grownBy_setCell' W _ v) (.inr (h1.not_row (by decide) hown).symm)⟩, h.b.setCell (p := ⟨w.heap.size + 1 + 1, 0, none⟩) (by show w.heap.size ≤ w.heap.size + 1 + 1; omega) v⟩
theorem keepsFrom_below {B : Nat} {W W' : World} (h : Below W.heap.size W W') : KeepsFrom B W W' := ⟨h.size, fun k o _ hk _ => (h.block k (heap_lt hk)).trans hk⟩
theorem keepsFrom_set {B : Nat} (W : World) (b : Nat) (v : Value) (h : b < B) : KeepsFrom B W (W.setCell ⟨b, 0, none⟩ v) := KeepsFrom.of_grownBy (grownBy_setCell' W b v) (fun j e => by cases e; exact h)
theorem foldN_len : ∀ {ps l l' : List (List UInt8)}, foldN l ps = .ok l' → l'.length ≤ l.length + ps.length
  | [], l, l', h => by cases h; simp
  | p :: ps, l, l', h => by
    rw [foldN] at h
    split at h
    · cases h
    · rename_i l2 hs
      have h1 := foldN_len h
      have h2 : l2.length ≤ l.length + 1 := by
        unfold stepN at hs
        split at hs
        · cases hs; simp; omega
        · split at hs
          · cases hs
          · split at hs
            · cases hs; simp
            · cases hs
      simp only [List.length_cons]
      omega
theorem joinL_len : ∀ {l : List (List UInt8)}, (∀ p ∈ l, p.length ≤ 31) → (joinL l).length ≤ 32 * l.length
  | [], _ => by simp [joinL]
  | p :: l, h => by
    have h1 := joinL_len (l := l) (fun q hq => h q (List.mem_cons_of_mem _ hq))
    have h2 := h p (List.mem_cons_self ..)
    rw [joinL_cons]
    simp only [List.length_cons, List.length_append]
    omega
theorem rootL_len {l : List (List UInt8)} (h : ∀ p ∈ l, NameOk p) : (rootL l).length ≤ 32 * l.length + 1 := by
  have := joinL_len (l := l) (fun p hp => (h p hp).len)
  unfold rootL
  split
  · simp
  · omega
theorem startN_len (cwd path : List UInt8) : (startN cwd path).length ≤ cwd.length + 1 := by
  unfold startN
  split
  · exact parts_count cwd
  · simp
theorem strVs_drop (L : List (List UInt8)) : strVs L.dropLast = (strVs L).take (L.length - 1) := by
  rw [strVs, strVs, List.map_dropLast, List.dropLast_eq_take, List.length_map]
theorem norm_end {f : Nat} {w W : World} {D : Nat} {sv ev : Value} {tmps : Array Value} (hs : Boxed W w.heap.size 9 sv) (he : Boxed W (w.heap.size + 1) 29 ev) (hD : w.heap.size + 1 < D) (hK : W.heap[D]? = some (.deferred (some []))) (hb : Below w.heap.size w W)
    (h4 : tmps.getD 4 undef = .pointer (some ⟨w.heap.size, 0, none⟩)) (h5 : tmps.getD 5 undef = .pointer (some ⟨w.heap.size + 1, 0, none⟩)) :
    bodyPostM Fence.wide f Tryz.prog Tryz.f22 (fun e w' => e = .returned (.tuple #[sv, ev]) ∧ Below w.heap.size w w') .ret { tmps := tmps, defers := [{ target := .collected D, args := #[] }] } W := by
  refine ⟨by simp, .inl ⟨_, _, rfl, run_takeDeferred hK, ?_⟩⟩
  have p0 : (W.putObj D (.deferred none)).cell? ⟨w.heap.size, 0, none⟩ = some sv := cell_at ((World.putObj_heap_other (by omega)).trans hs) rfl
  have p1 : (W.putObj D (.deferred none)).cell? ⟨w.heap.size + 1, 0, none⟩ = some ev := cell_at ((World.putObj_heap_other (by omega)).trans he) rfl
  exact ⟨_, res_two rfl h4 (run_var_str Tryz.underlying9 p0) h5 (run_var_int Tryz.underlying29 p1), rfl, hb.trans (belowK_b (w := w) (Nat.le_refl _) W D _ _ (by omega) hK rfl rfl)⟩
theorem deferred_set {W : World} {D b : Nat} {v : Value} (hK : W.heap[D]? = some (.deferred (some []))) (h : D ≠ b) : (W.setCell ⟨b, 0, none⟩ v).heap[D]? = some (.deferred (some [])) := by rw [heap_set_ne _ _ _ _ _ h]; exact hK
set_option maxHeartbeats 8000000 in
set_option maxRecDepth 100000 in
theorem norm_in (f : Nat) (hf : 6 ≤ f) (cwd path : List UInt8) (w : World) (hcw : cwd.length ≤ 1000000) (h0 : path ≠ []) (h2 : path.length ≤ 255) :
    CallsIn Fence.wide f Tryz.prog 22 #[.string (mkB cwd), .string (mkB path)] w fun e w' => e = .returned (.tuple #[.string (mkB (normN cwd path).2), .int .i64 (normN cwd path).1]) ∧ Below w.heap.size w w' := by
  have h1 : 1 ≤ f := by omega
  have hsz := mkB_size path
  have hszc := mkB_size cwd
  have HL : Hid ((mkB path).toList = path) := Lib.hid (mkB_toList path)
  have e0 : (mkB path).toList.isEmpty = false := by rw [HL.out]; simpa using h0
  have i2 : (path.length : Int) ≤ 255 := by omega
  have hpos : 0 < path.length := List.length_pos_iff.2 h0
  have hlt2 : 0 < (mkB path).size := by rw [mkB_size]; exact hpos
  obtain ⟨v0, hv0⟩ : ∃ v : Nat, ((mkB path)[0]'hlt2).toNat = v := ⟨_, rfl⟩
  have HV : Hid (path[0].toNat = v0) := Lib.hid hv0
  have HHD : Hid (path.head? = some 47 ↔ v0 = 47) := Lib.hid (by
    rw [List.head?_eq_getElem?, List.getElem?_eq_getElem hpos, Option.some.injEq, ← HV.out]
    exact ⟨fun h => congrArg UInt8.toNat h, fun h => UInt8.toNat_inj.1 h⟩)
  obtain ⟨st, hst⟩ : ∃ st, st = startN cwd path := ⟨_, rfl⟩
  have HST := Lib.hid hst
  have HN : Hid (normN cwd path = match foldN st (partsB path) with | .bad e => (e, []) | .ok l => if 255 < (rootL l).length then (36, []) else (0, rootL l)) := Lib.hid (by rw [hst, normN, if_neg h0, if_neg (by omega)]; cases foldN (startN cwd path) (partsB path) <;> rfl)
  have HPTH : Hid (Calls Tryz.prog 26 #[.string (mkB cwd)] w fun e w' => True) := Lib.hid ((isPath_any cwd w hcw).mono fun _ _ _ => trivial)
  have HISP : Hid (∀ w, Calls Tryz.prog 26 #[.string (mkB cwd)] w fun e w' => e = .returned (.bool (pathB cwd)) ∧ Below w.heap.size w w') := Lib.hid (fun w => isPath_any cwd w hcw)
  have HCW := Lib.hid hcw; have HP2 := Lib.hid h2
  clear hst h0 h2 hcw HPTH
  refine callsIn_of_wp_marks Tryz.func22 rfl trivial ?_ rfl
  simp only [Tryz.ntmps22, List.size_toArray, List.length_cons, List.length_nil, Nat.reduceAdd, Nat.reduceSub, Array.replicate_succ, Array.replicate_zero, List.push_toArray, List.append_toArray, List.nil_append, List.cons_append]
  refine wpIn_wide.2 ?_
  go_upto_region 6 with fail
  obtain ⟨W, hW⟩ : ∃ W, W = ((w.alloc (.cells #[.string ⟨#[]⟩] 9)).alloc (.cells #[.int .i64 0] 29)).alloc (.cells #[.slice none 0 0] 49) := ⟨_, rfl⟩
  have HA : Hid (NormAt w [] W) := Lib.hid (by
    rw [hW]
    refine ⟨?_, ?_, ⟨.slice none 0 0, ?_, World.ownsRow_nil _ _ _ _⟩, ?_⟩
    · exact (heap_old _ _ _ (by simp only [heap_len]; omega)).trans ((heap_old _ _ _ (by simp only [heap_len]; omega)).trans (heap_new _ _ _ rfl))
    · exact (heap_old _ _ _ (by simp only [heap_len]; omega)).trans (heap_new _ _ _ (by simp only [heap_len]))
    · exact heap_new _ _ _ (by simp only [heap_len])
    · exact (((Below.refl _ _).alloc (Nat.le_refl _) _).alloc (by simp only [heap_len]; omega) _).alloc (by simp only [heap_len]; omega) _)
  have HB0 : Hid (Below W.heap.size W W) := Lib.hid (Below.refl _ _)
  have HZ : Hid (W.heap.size = w.heap.size + 3) := Lib.hid (by rw [hW]; simp only [heap_len])
  rw [← hW]
  clear hW
  rename_i K1 hK1 K2 hK2
  have REST : Hid (∀ (u9 u10 u11 u12 u13 u14 u15 u16 u17 u18 u19 u20 u21 u22 u23 u24 u25 : Value) (W : World), NormAt w st W → K1 { tmps := #[.string (mkB cwd), .string (mkB path), undef, undef, .pointer (some ⟨w.heap.size, 0, none⟩), .pointer (some ⟨w.heap.size + 1, 0, none⟩), .pointer (some ⟨w.heap.size + 1 + 1, 0, none⟩), undef, undef, u9, u10, u11, u12, u13, u14, u15, u16, u17, u18, u19, u20, u21, u22, u23, u24, u25, undef, undef, undef, undef, undef, undef, undef, undef, undef, undef, undef, undef, undef, undef, undef, undef, undef, undef, undef, undef, undef, undef, undef, undef, undef, undef, undef, undef, undef, undef, undef], defers := [] } W) := by
    refine Lib.hid ?_
    intro u9 u10 u11 u12 u13 u14 u15 u16 u17 u18 u19 u20 u21 u22 u23 u24 u25 W hN
    refine hK1 _ _ ?_
    clear hK2 K2 HB0 HZ HA
    have HNA := Lib.hid hN
    clear hN
    go_wp2_with (go_at_call 48; refine (parts_any path _).mono ?_; rintro e w2 ⟨rfl, rfl⟩)
    obtain ⟨W3, hW3⟩ : ∃ W3, W3 = W.alloc (.cells #[.string (mkB path)] 9) := ⟨_, rfl⟩
    have hb3 : Below W.heap.size W W3 := by rw [hW3]; exact (Below.refl _ _).alloc (Nat.le_refl _) _
    have hN3 := HNA.out.below hb3
    have HN3 := Lib.hid hN3
    have hc1 : W3.cell? ⟨W.heap.size, 0, none⟩ = some (.string (mkB path)) := by rw [hW3]; exact cell_at (heap_new _ _ _ rfl) rfl
    have hlt : W.heap.size < W3.heap.size := by rw [hW3]; simp only [heap_len]; omega
    have hwW := HNA.out.b.size
    have hcl : w.heap.size + 1 + 1 < W3.heap.size := by obtain ⟨v, hv, _⟩ := hN3.l; exact hv.lt
    rw [← hW3]
    clear hW3
    refine (wpIn_wide (n := f)).1 ?_
    refine wpIn_rangeFunc_ownG rfl h1 (gf := 70) (lb := #[.pointer (some ⟨W.heap.size, 0, none⟩)]) rfl trivial (enters_of Tryz.func70 (by kernel_rfl) rfl)
      (parts_stops (f - 1) (by omega) W.heap.size (w.heap.size + 1 + 1) 49 path (by have := HP2.out; omega) W3 hlt hcl hc1 (fun v hv g hg => by obtain ⟨u, hu, ho⟩ := hN3.l; rw [Boxed.one hv hu] at hg; exact (ho.lt g hg).2)) (fun h k => h.trans k) (KeepsP.put hcl) (Below.refl _ _) (fun _ => rfl)
      (fun pre W' => isOk st (pre.map Subtype.val) ∧ (∃ v, Boxed W' (w.heap.size + 1 + 1) 49 v ∧ W'.ownsRow (w.heap.size + 3) 9 1 v (okL st (pre.map Subtype.val)).length (strVs (okL st (pre.map Subtype.val))) ∧ True) ∧ Boxed W' w.heap.size 9 (.string ⟨#[]⟩) ∧ Boxed W' (w.heap.size + 1) 29 (.int .i64 0) ∧ Below w.heap.size w W')
      (fun c pre W' => c = .ret ∧ isBad st (pre.map Subtype.val) ∧ Boxed W' w.heap.size 9 (.string ⟨#[]⟩) ∧ Boxed W' (w.heap.size + 1) 29 (.int .i64 (erL st (pre.map Subtype.val))) ∧ Below w.heap.size w W')
      (OwnFrom.and (ownFrom_pure _ fun pre : List PartD => isOk st (pre.map Subtype.val)) (OwnFrom.and (Own.from (holdsRow_own (w.heap.size + 3) (w.heap.size + 1 + 1) 49 9 1 (fun pre : List PartD => (okL st (pre.map Subtype.val)).length) (fun pre => strVs (okL st (pre.map Subtype.val))) (fun _ _ => True)) _)
        (OwnFrom.and (Own.from (boxed_own _ _ fun _ => .string ⟨#[]⟩) _) (OwnFrom.and (Own.from (boxed_own _ _ fun _ => .int .i64 0) _) (ownFrom_below (Nat.le_refl _) (by omega))))))
      (fun c => OwnFrom.and (ownFrom_pure _ fun _ => c = .ret) (OwnFrom.and (ownFrom_pure _ fun pre : List PartD => isBad st (pre.map Subtype.val)) (OwnFrom.and (Own.from (boxed_own _ _ fun _ => .string ⟨#[]⟩) _) (OwnFrom.and (Own.from (boxed_own _ _ fun pre : List PartD => .int .i64 (erL st (pre.map Subtype.val))) _) (ownFrom_below (Nat.le_refl _) (by omega))))))
      ⟨rfl, by obtain ⟨v, hv, ho⟩ := hN3.l; exact ⟨v, hv, ho, trivial⟩, hN3.s, hN3.e, hN3.b⟩
      (fun x => { tmps := #[.string (mkB cwd), .string (mkB path), undef, undef, .pointer (some ⟨w.heap.size, 0, none⟩), .pointer (some ⟨w.heap.size + 1, 0, none⟩), .pointer (some ⟨w.heap.size + 1 + 1, 0, none⟩), .string (mkB x.val), undef, u9, u10, u11, u12, u13, u14, u15, u16, u17, u18, u19, u20, u21, u22, u23, u24, u25, .string (mkB path), .func (.func 70) #[] #[.pointer (some ⟨W.heap.size, 0, none⟩)], .string (mkB x.val), undef, undef, undef, undef, undef, undef, undef, undef, undef, undef, undef, undef, undef, undef, undef, undef, undef, undef, undef, undef, undef, undef, undef, undef, undef, undef, undef, undef], defers := [] }) ?assign ?body ?done ?stop
    case assign =>
      intro l x W K hK
      gi_wp2
      exact hK
    case body =>
      rintro l pre x W' ⟨hok, ⟨v, hv, hrow, -⟩, hs0, he0, hB⟩ hltN
      obtain ⟨L, hL⟩ : ∃ L, L = okL st (pre.map Subtype.val) := ⟨_, rfl⟩
      have HSTEP : Hid (foldN st ((pre ++ [x]).map Subtype.val) = stepN L x.val) := Lib.hid (by rw [List.map_append, List.map_cons, List.map_nil, foldN_snoc, show foldN st (pre.map Subtype.val) = .ok (okL st (pre.map Subtype.val)) from hok, hL])
      rw [← hL] at hrow
      have HROW := Lib.hid hrow; have HVB := Lib.hid hv; have HS0 := Lib.hid hs0; have HE0 := Lib.hid he0; have HBX := Lib.hid hB
      have hc := hv.cell
      have hf := hv.frozen
      have q0 := hs0.cell
      have q1 := hs0.frozen
      have q2 := he0.cell
      have q3 := he0.frozen
      have hzx := mkB_size x.val
      have HLX : Hid ((mkB x.val).toList = x.val) := Lib.hid (mkB_toList x.val)
      have hx6 := x.property
      have hLL : L.length ≤ 2000000 := by
        have h1 := foldN_len (show foldN st (pre.map Subtype.val) = .ok (okL st (pre.map Subtype.val)) from hok)
        have h2 := startN_len cwd path
        have h3 := parts_count path
        have h4 := HCW.out
        have h5 := HP2.out
        rw [← HST.out] at h2
        rw [← hL, List.length_map] at h1
        omega
      have hBs := hB.size
      clear hok hrow hs0 he0 hB hL hltN
      by_cases hd : (mkB x.val).toList = [46, 46]
      · have e1 : ((mkB x.val).toList == [46, 46]) = true := beq_iff_eq.2 hd
        have hst2 : foldN st ((pre ++ [x]).map Subtype.val) = .ok L.dropLast := by rw [HSTEP.out, stepN, if_pos (by rw [← HLX.out]; exact hd)]
        have HOK := Lib.hid (okL_of hst2)
        clear hst2 hd
        rcases HROW.out.2 with ⟨rfl, hk⟩ | ⟨g, cap, cur, rfl, hg1, hg2, hg3, hg4, hg5, hg6⟩
        · obtain rfl : L = [] := List.length_eq_zero_iff.1 hk
          gi_wp2
          refine ⟨keepsFrom_set _ _ _ hcl, KeepsP.set HVB.out (fun g hg => by cases hg), HOK.out.2, ⟨_, HVB.out.set _, ?_, trivial⟩, HS0.out.other (by omega) _, HE0.out.other (by omega) _, HBX.out.setCell (by show w.heap.size ≤ w.heap.size + 1 + 1; omega) _⟩
          rw [HOK.out.1]
          exact World.ownsRow_nil _ _ _ _
        · obtain ⟨m, hm⟩ : ∃ m : Nat, m = L.length - 1 := ⟨_, rfl⟩
          have hmx : max (L.length : Int) 1 = (m : Int) + 1 := by omega
          have hmc : (m : Int) ≤ (cap : Int) := by omega
          have hcm : (cap : Int) ≤ 9223372036854775807 := by simp only [maxLen] at hg4; omega
          have HROW2 : Hid (W'.ownsRow (w.heap.size + 3) 9 1 (.slice (some ⟨g, 0, none⟩) m cap) L.dropLast.length (strVs L.dropLast)) := Lib.hid (by
            have hdl : L.dropLast.length = m := by rw [List.length_dropLast, hm]
            rw [hdl]
            refine ⟨by rw [strVs_length, hdl]; omega, .inr ⟨g, cap, cur, rfl, hg1, hg2, by omega, hg4, hg5, ?_⟩⟩
            rw [strVs_drop, ← hg6, List.take_take, hm]
            congr 1
            omega)
          clear hg1 hg2 hg3 hg4 hg5 hg6 hm
          gi_wp2
          refine ⟨keepsFrom_set _ _ _ hcl, KeepsP.set HVB.out (fun g' hg => hg), HOK.out.2, ⟨_, HVB.out.set _, ?_, trivial⟩, HS0.out.other (by omega) _, HE0.out.other (by omega) _, HBX.out.setCell (by show w.heap.size ≤ w.heap.size + 1 + 1; omega) _⟩
          rw [HOK.out.1]
          exact HROW2.out.kept (grownBy_setCell' W' _ _) (.inr (HVB.out.not_row (by decide) HROW2.out).symm)
      · have e1 : ((mkB x.val).toList == [46, 46]) = false := beq_eq_false_iff_ne.2 hd
        have hd2 : x.val ≠ [46, 46] := by rw [← HLX.out]; exact hd
        by_cases h31 : 31 < x.val.length
        · have i31 : (31 : Int) < x.val.length := by omega
          have hst2 : foldN st ((pre ++ [x]).map Subtype.val) = .bad 36 := by rw [HSTEP.out, stepN, if_neg hd2, if_pos h31]
          have HER := Lib.hid (erL_of hst2)
          clear hst2 hd hd2 h31
          gi_wp2
          refine ⟨(keepsFrom_set _ _ _ (by omega)).trans (keepsFrom_set _ _ _ (by omega)), rfl, HER.out.2, (HS0.out.set _).other (by omega) _, ?_, (HBX.out.setCell (by show w.heap.size ≤ w.heap.size; omega) _).setCell (by show w.heap.size ≤ w.heap.size + 1; omega) _⟩
          rw [HER.out.1]
          exact (HE0.out.other (by omega) _).set _
        · have i31 : (x.val.length : Int) ≤ 31 := by omega
          have HNMC : Hid (Calls Tryz.prog 49 #[.string (mkB x.val)] W' fun e w' => e = .returned (.bool (nameB x.val)) ∧ Below W'.heap.size W' w') := Lib.hid (isName_any x.val W' hx6)
          have hw1 : (Fence.wide.inRound l).fn 49 := trivial
          cases hnb : nameB x.val
          · have hst2 : foldN st ((pre ++ [x]).map Subtype.val) = .bad 22 := by rw [HSTEP.out, stepN, if_neg hd2, if_neg h31, hnb]; rfl
            have HER := Lib.hid (erL_of hst2)
            have HNB := Lib.hid hnb
            clear hst2 hd hd2 h31 hnb
            gi_wp2
            refine ⟨trivial, fun _ => by omega, (CallsIn.inRound l (callsIn_wide.2 HNMC.out)).mono ?_⟩
            rintro e W5 ⟨rfl, hb5⟩
            rw [HNB.out]
            have HB5 := Lib.hid hb5
            have q0' := (boxed_below HS0.out hb5).cell
            have q1' := (boxed_below HS0.out hb5).frozen
            have q2' := (boxed_below HE0.out hb5).cell
            have q3' := (boxed_below HE0.out hb5).frozen
            clear hb5
            gi_wp2
            refine ⟨(keepsFrom_below HB5.out).trans ((keepsFrom_set _ _ _ (by omega)).trans (keepsFrom_set _ _ _ (by omega))), rfl, HER.out.2, ((boxed_below HS0.out HB5.out).set _).other (by omega) _, ?_, ((HBX.out.trans (HB5.out.mono HBX.out.size)).setCell (by show w.heap.size ≤ w.heap.size; omega) _).setCell (by show w.heap.size ≤ w.heap.size + 1; omega) _⟩
            rw [HER.out.1]
            exact ((boxed_below HE0.out HB5.out).other (by omega) _).set _
          · have hst2 : foldN st ((pre ++ [x]).map Subtype.val) = .ok (L ++ [x.val]) := by rw [HSTEP.out, stepN, if_neg hd2, if_neg h31, if_pos hnb]
            have HOK := Lib.hid (okL_of hst2)
            have HNB := Lib.hid hnb
            clear hst2 hd hd2 h31 hnb
            have hne : 49 ≠ 9 := by decide
            obtain ⟨i0, hi, hz0, hz1, hz2⟩ := info_parts str_info
            have HL2 : Hid (strVs L ++ [.string (mkB x.val)] = strVs (L ++ [x.val])) := Lib.hid (by simp [strVs])
            gi_wp2
            refine ⟨trivial, fun _ => by omega, (CallsIn.inRound l (callsIn_wide.2 HNMC.out)).mono ?_⟩
            rintro e W5 ⟨rfl, hb5⟩
            rw [HNB.out]
            have HB5 := Lib.hid hb5
            have HV5 := boxed_below HVB.out hb5
            have HR5 := ownsRow_below HROW.out hb5
            have HX5 : Below w.heap.size w W5 := HBX.out.trans (hb5.mono HBX.out.size)
            have hc5 := HV5.cell
            have hf5 := HV5.frozen
            have hz5 := HX5.size
            have hz6 : w.heap.size + 3 ≤ W5.heap.size := by have := HV5.lt; omega
            clear hb5
            gi_wp2_with (first
              | (gi_at_builtin; refine wplIn_append_fresh _ rfl _ _ 49 rfl (w.heap.size + 3) 9 i0 (.string ⟨#[]⟩) 1 16 Tryz.underlying49 hi hz0 hz1 hz2 rfl (by decide) _ _ _ rfl (HR5.alloc _) ⟨W5.heap.size, 0, none⟩ 1 1 [.string (mkB x.val)] rfl rfl (cell_one_new _ _ _) (by simp [Value.oneCell']) (by simp only [maxLen]; omega) (by omega) (by simp only [heap_len]; omega) (by omega) ?_; intro v' w1 hown' hgrow hfr; obtain ⟨g', cap', rfl⟩ := ownsRow_succ hown'; obtain ⟨hv1, hv2, hr2, hk2, hb2⟩ := Boxed.appended HV5 hne (ownsRow_le HR5 (by omega)) hz5 (by omega) (ownsRow_le hown' (by omega)) hgrow; have hc1' := hv1.cell; have hf1 := hv1.frozen; have HKP := KeepsP.stored HV5 hv2 hgrow hfr
                 have hs5 : Boxed w1 w.heap.size 9 (.string ⟨#[]⟩) := ((boxed_below HS0.out HB5.out).alloc _).kept hgrow (fun e => by have := (HR5.lt _ e.symm).1; omega)
                 have he5 : Boxed w1 (w.heap.size + 1) 29 (.int .i64 0) := ((boxed_below HE0.out HB5.out).alloc _).kept hgrow (fun e => by have := (HR5.lt _ e.symm).1; omega)
                 have hr3 := hown'.kept (grownBy_setCell' w1 (w.heap.size + 1 + 1) (.slice (some ⟨g', 0, none⟩) (L.length + 1) cap')) (.inr (hv1.not_row hne hown').symm)
                 clear hown' hgrow hfr hr2))
            refine ⟨(keepsFrom_below HB5.out).trans (hk2.from _), (KeepsP.below HB5.out HVB.out.lt).trans HKP, HOK.out.2, ⟨_, hv2, ?_, trivial⟩, hs5.other (by omega) _, he5.other (by omega) _, HX5.trans hb2⟩
            rw [HOK.out.1, ← HL2.out]
            simpa using hr3
    case done =>
      rintro D ys W' hD hys ⟨hok, ⟨v, hv, hrow, -⟩, hs0, he0, hB⟩ hK
      rw [hys] at hok hrow
      obtain ⟨L, hL⟩ : ∃ L, L = okL st (partsB path) := ⟨_, rfl⟩
      rw [← hL] at hrow
      have hok2 : foldN st (partsB path) = .ok L := by rw [hL]; exact hok
      have HNR : Hid (normN cwd path = if 255 < (rootL L).length then (36, []) else (0, rootL L)) := Lib.hid (by rw [HN.out, hok2])
      have hRL : (rootL L).length ≤ 100000000 := by
        have h1 := foldN_len hok2
        have h2 := startN_len cwd path
        have h3 := parts_count path
        have h4 := HCW.out
        have h5 := HP2.out
        rw [← HST.out] at h2
        have h6 := rootL_len (l := L) (foldN_ok (by rw [HST.out]; exact startN_ok cwd path) hok2)
        omega
      have hLl : L.length ≤ 100000000 := by
        have h1 := foldN_len hok2
        have h2 := startN_len cwd path
        have h3 := parts_count path
        have h4 := HCW.out
        have h5 := HP2.out
        rw [← HST.out] at h2
        omega
      obtain ⟨R, hR⟩ : ∃ R, R = rootL L := ⟨_, rfl⟩
      obtain ⟨j, hj⟩ : ∃ j, j = Lib.join L [47] := ⟨_, rfl⟩
      have hjR : 47 :: j = R := by rw [hj, hR]; exact lib_join L
      have HJN : Hid (Calls Tryz.prog 50 #[v, .string ⟨#[47]⟩] W' fun e w' => e = .returned (.string (mkB j)) ∧ Below W'.heap.size W' w') := Lib.hid (by rw [hj]; exact join_any _ L v W' hrow (by omega) (by omega))
      rw [← hR] at HNR hRL
      have hcat : (⟨#[47]⟩ : ByteArray) ++ mkB j = mkB R := by rw [← hjR]; exact mkB_append [47] j
      have hRz := mkB_size R
      have hjz := mkB_size j
      have hjl : j.length + 1 = R.length := by rw [← hjR]; rfl
      have hRi : (R.length : Int) ≤ 100000000 := by omega
      have hDW : w.heap.size + 1 + 1 < D := by omega
      have hDl : D < W'.heap.size := heap_lt hK
      have hc := hv.cell
      have HS0 := Lib.hid hs0; have HE0 := Lib.hid he0; have HBX := Lib.hid hB; have HKD := Lib.hid hK
      clear hok hok2 hL hrow hR hj hjR hys hs0 he0 hB hK hD
      by_cases h255 : 255 < R.length
      · have i255 : (255 : Int) < R.length := by omega
        have HRES : Hid (normN cwd path = (36, [])) := Lib.hid (by rw [HNR.out, if_pos h255])
        clear h255
        go_wp2_with (go_at_call 50; refine HJN.out.mono ?_; rintro e W5 ⟨rfl, hb5⟩; have HB5 := Lib.hid hb5; have q0' := (boxed_below HS0.out hb5).cell; have q1' := (boxed_below HS0.out hb5).frozen; have q2' := (boxed_below HE0.out hb5).cell; have q3' := (boxed_below HE0.out hb5).frozen; clear hb5)
        rw [HRES.out]
        exact norm_end (((boxed_below HS0.out HB5.out).set _).other (by omega) _) (((boxed_below HE0.out HB5.out).other (by omega) _).set _) (by omega) (deferred_set (deferred_set ((HB5.out.block D hDl).trans HKD.out) (by omega)) (by omega))
          (((HBX.out.trans (HB5.out.mono HBX.out.size)).setCell (by show w.heap.size ≤ w.heap.size; omega) _).setCell (by show w.heap.size ≤ w.heap.size + 1; omega) _) rfl rfl
      · have i255 : (R.length : Int) ≤ 255 := by omega
        have HRES : Hid (normN cwd path = (0, R)) := Lib.hid (by rw [HNR.out, if_neg h255])
        clear h255
        go_wp2_with (go_at_call 50; refine HJN.out.mono ?_; rintro e W5 ⟨rfl, hb5⟩; have HB5 := Lib.hid hb5; have q0' := (boxed_below HS0.out hb5).cell; have q1' := (boxed_below HS0.out hb5).frozen; have q2' := (boxed_below HE0.out hb5).cell; have q3' := (boxed_below HE0.out hb5).frozen; clear hb5)
        rw [HRES.out]
        exact norm_end (((boxed_below HS0.out HB5.out).set _).other (by omega) _) (((boxed_below HE0.out HB5.out).other (by omega) _).set _) (by omega) (deferred_set (deferred_set ((HB5.out.block D hDl).trans HKD.out) (by omega)) (by omega))
          (((HBX.out.trans (HB5.out.mono HBX.out.size)).setCell (by show w.heap.size ≤ w.heap.size; omega) _).setCell (by show w.heap.size ≤ w.heap.size + 1; omega) _) rfl rfl
    case stop =>
      rintro D c pre W' hD hsp ⟨rfl, hbad, hs0, he0, hB⟩ hK
      obtain ⟨qs, hqs⟩ := hsp
      have HNR : Hid (normN cwd path = (erL st (pre.map Subtype.val), [])) := Lib.hid (by rw [HN.out, ← hqs, foldN_more (show foldN st (pre.map Subtype.val) = .bad _ from hbad)])
      have HRES : Hid (normN cwd path = (erL st (pre.map Subtype.val), [])) := HNR
      have hDl : D < W'.heap.size := heap_lt hK
      refine (wpIn_wide (n := f)).2 ?_
      go_wp2
      rw [HRES.out]
      exact norm_end hs0 he0 (by omega) hK hB rfl rfl
  clear hK1
  by_cases hc : v0 = 47
  · have HS0 : Hid (st = []) := Lib.hid (by rw [HST.out, startN, if_neg (fun h => h.1 (HHD.out.2 hc))])
    subst hc
    go_wp2
    exact REST.out _ _ _ _ _ _ _ _ _ _ _ _ _ _ _ _ _ _ (by rw [HS0.out]; exact HA.out)
  · have c1 : ((v0 : Int) != 47) = true := by rw [bne, beq_eq_false_iff_ne.2 (show (v0 : Int) ≠ 47 by omega)]; rfl
    cases hp : pathB cwd
    · have HS0 : Hid (st = []) := Lib.hid (by rw [HST.out, startN, if_neg (fun h => by rw [hp] at h; exact absurd h.2 (by decide))])
      have HP := Lib.hid hp
      clear hp
      go_wp2_with (go_at_call 26; refine (HISP.out _).mono ?_; rintro e w1 ⟨rfl, hb1⟩; rw [HP.out]; have HB1 := Lib.hid hb1; clear hb1)
      exact REST.out _ _ _ _ _ _ _ _ _ _ _ _ _ _ _ _ _ _ (by rw [HS0.out]; exact HA.out.below HB1.out)
    · have HS0 : Hid (st = partsB cwd) := Lib.hid (by rw [HST.out, startN, if_pos ⟨fun h => hc (HHD.out.1 h), hp⟩])
      have HP := Lib.hid hp
      clear hp
      have HCOL : Hid (∀ w1 : World, Calls Tryz.prog 47 #[.func (.func 70) #[] #[.pointer (some ⟨w1.heap.size, 0, none⟩)]] (w1.alloc (.cells #[.string (mkB cwd)] 9)) fun e W' => ∃ v, e = .returned v ∧ W'.ownsRow (w1.alloc (.cells #[.string (mkB cwd)] 9)).heap.size 9 1 v (partsB cwd).length (strVs (partsB cwd)) ∧ Below (w1.alloc (.cells #[.string (mkB cwd)] 9)).heap.size (w1.alloc (.cells #[.string (mkB cwd)] 9)) W') :=
        Lib.hid (fun w1 => callsIn_wide.1 (collect_in f (by omega) w1.heap.size cwd HCW.out _ (by simp only [heap_len]; omega) (cell_at (heap_new _ _ _ rfl) rfl)))
      go_wp2_with (first
        | (go_at_call 26; refine (HISP.out _).mono ?_; rintro e w1 ⟨rfl, hb1⟩; rw [HP.out]; have HB1 := Lib.hid hb1; clear hb1)
        | (go_at_call 48; refine (parts_any cwd _).mono ?_; rintro e w2 ⟨rfl, rfl⟩)
        | (go_at_call 47; refine (HCOL.out w1).mono ?_; rintro e W5 ⟨v, rfl, ho, hb5⟩
           have HA1 : Hid (NormAt w [] W5) := Lib.hid ((HA.out.below HB1.out).below (((Below.refl _ _).alloc (Nat.le_refl _) _).trans (hb5.mono (by simp only [heap_len]; omega))))
           have HO : Hid (W5.ownsRow (w.heap.size + 3) 9 1 v (partsB cwd).length (strVs (partsB cwd))) := Lib.hid (ownsRow_le ho (by have := HZ.out; have := HB1.out.size; simp only [heap_len]; omega))
           obtain ⟨p, n, cp, rfl⟩ := ownsRow_slice ho
           have hcl : ∃ u, Boxed W5 (w.heap.size + 1 + 1) 49 u := by obtain ⟨u, hu, _⟩ := HA1.out.l; exact ⟨u, hu⟩
           obtain ⟨u, hu⟩ := hcl
           have hu1 := hu.cell
           have hu2 := hu.frozen
           clear ho hb5 hu))
      exact REST.out _ _ _ _ _ _ _ _ _ _ _ _ _ _ _ _ _ _ (by rw [HS0.out]; exact HA1.out.store HO.out)
theorem norm_any (cwd path : List UInt8) (w : World) (hcw : cwd.length ≤ 1000000) (hp : path.length ≤ 1000000) :
    Calls Tryz.prog 22 #[.string (mkB cwd), .string (mkB path)] w fun e w' => e = .returned (.tuple #[.string (mkB (normN cwd path).2), .int .i64 (normN cwd path).1]) ∧ Below w.heap.size w w' := by
  by_cases h0 : path = []
  · exact norm_short cwd path w (.inl h0) hp
  · by_cases h2 : 255 < path.length
    · exact norm_short cwd path w (.inr h2) hp
    · exact callsIn_wide.1 (norm_in 6 (Nat.le_refl _) cwd path w hcw h0 (by omega))
end Go.Proofs.YtlpgandflkabcaaGreatDoor
