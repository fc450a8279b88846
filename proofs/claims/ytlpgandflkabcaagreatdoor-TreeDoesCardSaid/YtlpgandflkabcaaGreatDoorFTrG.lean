/-
  A range over an iterator that collects texts in a slice of its own.
-/
import Derived.Test.YtlpgandflkabcaaGreatDoorFTrF
import Derived.OwnWalkIn
import Derived.OwnWalk
import Derived.Maps.AppendAt
namespace Go.Proofs.YtlpgandflkabcaaGreatDoor
open Go Go.RowKit Go.Shelf
set_option linter.unusedVariables false
set_option linter.unusedSimpArgs false
attribute [local go_sem] Oper.semAt_some

/-- append to a row of one's own, one element or more: its row is the old one's, or new. -/
theorem wplIn_append_fresh {F : Fence} {n : Nat} {P : Program} (w : World) {ops : Array Oper} {rest : List Oper} {o : Oper} {a : Act} {Q : Exit → Act → World → Prop}
    (hg : o.guard = none) (s x : Operand) (t : TypeId) (hop : o.op = Op.call { callee := Callee.builtin Builtin.append, args := #[s, x], argTypes := #[t, t] })
    (base : Nat) (e : TypeId) (i : TypeInfo) (z : Value) (size bytes : Nat) (h1 : P.underlying t = some (.slice e)) (h2 : P.info? e = some i) (h3 : i.zero = some z) (h4 : i.size = size) (h5 : i.bytes = bytes) (h6 : z.cells.size = size) (h7 : 0 < size)
    (v : Value) (k : Nat) (xs : List Value) (hs : a.eval s = v) (hown : w.ownsRow base e size v k xs) (ad : Addr) (m c : Nat) (news : List Value) (hx : a.eval x = .slice (some ad) m c) (hn : news.length = m * size)
    (hc : ∀ j u, news[j]? = some u → w.cell? (ad.add j) = some u) (h1c : ∀ u ∈ news, u.oneCell' = true) (b1 : k + m ≤ maxLen) (b2 : (k + m) * bytes ≤ 140737488355328) (b3 : base ≤ w.heap.size) (hm : 0 < m)
    (hK : ∀ v' w', w'.ownsRow base e size v' (k + m) (xs ++ news) → w.grownBy w' v.ownBlock → (∀ g, v'.ownBlock = some g → v.ownBlock = some g ∨ w.heap.size ≤ g) → wpListIn F n P ops Q rest (a.put o.dst v') w') :
    wpListIn F n P ops Q (o :: rest) a w := by
  refine wpListIn_plain hg fun K hK' => ?_
  obtain ⟨v', w', hrun, r1, r2, r3⟩ := run_append_own (P := P) w base t o.type e i z size bytes h1 h2 h3 h4 h5 h6 h7 v k xs hown ad m c news hn hc h1c b1 b2 b3
  have hsmall : k + m ≤ 9223372036854775807 := by simp only [maxLen] at b1; omega
  have r4 : ∀ g, v'.ownBlock = some g → v.ownBlock = some g ∨ w.heap.size ≤ g := by
    subst h4
    rcases hown.2 with ⟨rfl, rfl⟩ | ⟨g, cap, cur, rfl, hbg, hg', hnc, hcm, hcs, htake⟩
    · have hr := run_append_nil (P := P) w t o.type e i z h1 h2 h3 ad m c news hn hc (by omega) (by omega) (by rw [h5]; simp only [Nat.zero_add] at b2; omega)
      rw [hr] at hrun
      cases hrun
      intro g hg; cases hg; exact .inr (Nat.le_refl _)
    · by_cases hroom : k + m ≤ cap
      · have hfit : k * i.size + news.length ≤ cur.size := by rw [hn, hcs, ← Nat.add_mul]; exact Nat.mul_le_mul_right _ hroom
        have hr := run_append_room (P := P) w t o.type e i h1 h2 g k cap cur hg' ad m c news hn hc h1c hroom hfit
        rw [hr] at hrun
        cases hrun
        intro g hg; exact .inl hg
      · have holds : ∀ j u, xs[j]? = some u → w.cell? ((⟨g, 0, none⟩ : Addr).add j) = some u := hown.cells (g := g) rfl
        have hr := run_append_grow (P := P) w t o.type e i z h1 h2 h3 ⟨g, 0, none⟩ k cap xs hown.1 holds ad m c news hn hc (by omega) (by omega) (growslice_fits (by omega) (by rw [h5]; exact b2))
        rw [hr] at hrun
        cases hrun
        intro g hg; cases hg; exact .inr (Nat.le_refl _)
  unfold Oper.wpIn
  refine ⟨?_, ?_⟩
  · simp [Oper.about, hop, resolve, Target.leads, Sem.run_pure]
  · rw [Oper.semAt_plain F _ _ (by rw [hop]; intro c hc'; cases hc')]
    simp [execOp, hop, resolve, invoke, builtin, hs, hx, hrun, Result.andThen]
    exact hK' _ _ (hK v' w' r1 r2 r4)
theorem Boxed.one {W : World} {c : Nat} {t : TypeId} {u v : Value} (h : Boxed W c t u) (h' : Boxed W c t v) : u = v := by
  have e : some (Obj.cells #[u] t) = some (Obj.cells #[v] t) := (show W.heap[c]? = _ from h).symm.trans h'
  simpa using e
/-- What a round that appends and stores leaves of a protected block. -/
theorem KeepsP.stored {W w1 : World} {c : Nat} {t : TypeId} {tmp : Obj} {v v' : Value} (hv : Boxed W c t v) (hv2 : Boxed (w1.setCell ⟨c, 0, none⟩ v') c t v') (hgrow : (W.alloc tmp).grownBy w1 v.ownBlock) (hfr : ∀ g, v'.ownBlock = some g → v.ownBlock = some g ∨ (W.alloc tmp).heap.size ≤ g) :
    KeepsP c t W (w1.setCell ⟨c, 0, none⟩ v') := by
  rintro k ⟨⟨r, e, fr, hr⟩, hb, hown⟩
  have hk : k < W.heap.size := heap_lt hr
  have e1 : (w1.setCell ⟨c, 0, none⟩ v').heap[k]? = W.heap[k]? := by
    rw [heap_set_ne _ _ _ _ _ hb, hgrow.block k (by simp only [heap_len]; omega) (fun e' => hown v hv e'.symm)]
    exact heap_old _ _ _ hk
  refine ⟨e1, ⟨r, e, fr, e1.trans hr⟩, hb, fun u hu e' => ?_⟩
  rw [Boxed.one hu hv2] at e'
  rcases hfr k e' with h | h
  · exact hown v hv h
  · simp only [heap_len] at h; omega
def strVs (l : List (List UInt8)) : List Value := l.map fun p => Value.string (mkB p)
theorem strVs_one (l : List (List UInt8)) : ∀ u ∈ strVs l, u.oneCell' = true := by
  intro u hu
  obtain ⟨p, _, rfl⟩ := List.mem_map.1 hu
  rfl
theorem strVs_length (l : List (List UInt8)) : (strVs l).length = l.length := by simp [strVs]
theorem str_info : (Tryz.prog.info? 9).map (fun i => (i.zero, i.size, i.bytes)) = some (some (.string ⟨#[]⟩), 1, 16) := by kernel_rfl
theorem parts_stops (f : Nat) (hf : 1 ≤ f) (b1 c : Nat) (t : TypeId) (s : List UInt8) (hs : s.length ≤ 1000000) (w : World) (hb1 : b1 < w.heap.size) (hc : c < w.heap.size) (hc1 : w.cell? ⟨b1, 0, none⟩ = some (.string (mkB s))) (hown : ∀ v, Boxed w c t v → ∀ g, v.ownBlock = some g → g < w.heap.size) :
    SeqStopsK Fence.wide f Tryz.prog 70 #[.pointer (some ⟨b1, 0, none⟩)] (fun x : PartD => #[.string (mkB x.val)]) (KeepsP c t) (fun ys => ys.map Subtype.val = partsB s) (fun pre => pre.map Subtype.val <+: partsB s) ((partsB s).length + 1) w := fun l J Jx W hW hJ hJx hY h0 =>
  parts_in f hf l b1 c t s hs J Jx W hJ hJx hY ((hW.cell (p := ⟨b1, 0, none⟩) hb1).trans hc1) (Nat.lt_of_lt_of_le hc hW.size) (fun v hv g hg => Nat.lt_of_lt_of_le (hown v ((hW.block _ hc).symm.trans hv) g hg) hW.size) h0
theorem parts_count (s : List UInt8) : (partsB s).length ≤ s.length + 1 := Nat.le_trans (List.length_filter_le _ _) (split_len s)
set_option maxRecDepth 100000 in
set_option maxHeartbeats 2000000 in
theorem appendSeq_in (f : Nat) (hf : 3 ≤ f) (b1 : Nat) (s : List UInt8) (hs : s.length ≤ 1000000) (w : World) (hb1 : b1 < w.heap.size) (hc1 : w.cell? ⟨b1, 0, none⟩ = some (.string (mkB s))) :
    CallsIn Fence.wide f Tryz.prog 69 #[.slice none 0 0, .func (.func 70) #[] #[.pointer (some ⟨b1, 0, none⟩)]] w fun e W' => ∃ v, e = .returned v ∧ W'.ownsRow w.heap.size 9 1 v (partsB s).length (strVs (partsB s)) ∧ Below w.heap.size w W' := by
  have h1 : 1 ≤ f := by omega
  have hne : 49 ≠ 9 := by decide
  obtain ⟨i0, hi, hz0, hz1, hz2⟩ := info_parts str_info
  have hcnt := parts_count s
  refine callsIn_of_wp_marks Tryz.func69 rfl trivial ?_ rfl
  simp only [Tryz.ntmps69, List.size_toArray, List.length_cons, List.length_nil, Nat.reduceAdd, Nat.reduceSub, Array.replicate_succ, Array.replicate_zero, List.push_toArray, List.append_toArray, List.nil_append, List.cons_append]
  gi_wp2
  have bO := Boxed.new w 49 (.slice none 0 0)
  have hB0 : Below w.heap.size w (w.alloc (.cells #[.slice none 0 0] 49)) := (Below.refl _ w).alloc (Nat.le_refl _) _
  refine wpIn_rangeFunc_ownG rfl h1 (gf := 70) (lb := #[.pointer (some ⟨b1, 0, none⟩)]) rfl trivial (enters_of Tryz.func70 (by kernel_rfl) rfl)
    (parts_stops (f - 1) (by omega) b1 w.heap.size 49 s hs (w.alloc (.cells #[.slice none 0 0] 49)) (by simp only [heap_len]; omega) (by simp only [heap_len]; omega) ((hB0.cell (p := ⟨b1, 0, none⟩) hb1).trans hc1) (fun v hv g hg => by rw [Boxed.one hv bO] at hg; cases hg)) (fun h k => h.trans k) (KeepsP.put (by simp only [heap_len]; omega)) (Below.refl _ _) (fun _ => rfl)
    (fun pre W => (∃ v, Boxed W w.heap.size 49 v ∧ W.ownsRow w.heap.size 9 1 v pre.length (strVs (pre.map Subtype.val)) ∧ True) ∧ Below w.heap.size w W)
    (fun _ _ _ => False)
    (OwnFrom.and (Own.from (holdsRow_own w.heap.size w.heap.size 49 9 1 (fun pre : List PartD => pre.length) (fun pre => strVs (pre.map Subtype.val)) (fun _ _ => True)) _) (ownFrom_below (Nat.le_refl _) (by simp only [heap_len]; omega)))
    (fun _ _ _ _ _ hs _ _ => hs)
    ⟨⟨_, bO, World.ownsRow_nil _ _ _ _, trivial⟩, hB0⟩
    (fun x => { tmps := #[.slice none 0 0, .func (.func 70) #[] #[.pointer (some ⟨b1, 0, none⟩)], .pointer (some ⟨w.heap.size, 0, none⟩), undef, .slice none 0 0, .string (mkB x.val), .func (.func 70) #[] #[.pointer (some ⟨b1, 0, none⟩)], .string (mkB x.val), undef, undef, undef, undef, undef], defers := [] }) ?assign ?body ?done ?stop
  case assign =>
    intro l x W K hK
    gi_wp2
    exact hK
  case body =>
    rintro l pre x W ⟨⟨v, hv, hrow, -⟩, hB⟩ hlt
    have hc := hv.cell
    have hpl : pre.length ≤ s.length + 1 := by omega
    have HL2 : Hid (strVs (pre.map Subtype.val) ++ [.string (mkB x.val)] = strVs ((pre ++ [x]).map Subtype.val)) := Lib.hid (by simp [strVs])
    have hsz := hB.size
    gi_wp2_with (gi_at_builtin; refine wplIn_append_fresh _ rfl _ _ 49 rfl w.heap.size 9 i0 (.string ⟨#[]⟩) 1 16 Tryz.underlying49 hi hz0 hz1 hz2 rfl (by decide) _ _ _ rfl (hrow.alloc _) ⟨W.heap.size, 0, none⟩ 1 1 [.string (mkB x.val)] rfl rfl (cell_one_new _ _ _) (by simp [Value.oneCell']) (by simp only [maxLen]; omega) (by omega) (by simp only [heap_len]; omega) (by omega) ?_; intro v' w1 hown' hgrow hfr; obtain ⟨g', cap', rfl⟩ := ownsRow_succ hown'; obtain ⟨hv1, hv2, hr2, hk2, hb2⟩ := Boxed.appended hv hne hrow hsz (Nat.le_refl _) hown' hgrow; have hc1' := hv1.cell; have hf1 := hv1.frozen; have HKP := KeepsP.stored hv hv2 hgrow hfr; clear hown' hgrow hfr)
    exact ⟨hk2.from _, HKP, ⟨_, hv2, by rw [← HL2.out]; simpa using hr2, trivial⟩, hB.trans hb2⟩
  case done =>
    rintro D ys W hD hys ⟨⟨v, hv, hrow, -⟩, hB⟩ hK
    have hc := hv.cell
    have hyl : ys.length = (partsB s).length := by rw [← hys, List.length_map]
    rw [hys, hyl] at hrow
    gi_wp2
    refine ⟨by simp, .inl ⟨_, _, rfl, run_takeDeferred hK, ?_⟩⟩
    exact ⟨_, results_tmp rfl _ _ _, v, rfl, ownsRow_putObj hrow _ hK rfl, hB.trans (belowK_b (w := w) (Nat.le_refl _) W D _ _ (by simp only [heap_len] at hD; omega) hK rfl rfl)⟩
  case stop =>
    rintro D c pre W _ _ h _
    exact h.elim
theorem collect_in (f : Nat) (hf : 4 ≤ f) (b1 : Nat) (s : List UInt8) (hs : s.length ≤ 1000000) (w : World) (hb1 : b1 < w.heap.size) (hc1 : w.cell? ⟨b1, 0, none⟩ = some (.string (mkB s))) :
    CallsIn Fence.wide f Tryz.prog 47 #[.func (.func 70) #[] #[.pointer (some ⟨b1, 0, none⟩)]] w fun e W' => ∃ v, e = .returned v ∧ W'.ownsRow w.heap.size 9 1 v (partsB s).length (strVs (partsB s)) ∧ Below w.heap.size w W' := by
  have HA := Lib.hid (appendSeq_in (f - 1) (by omega) b1 s hs w hb1 hc1)
  have hw1 : Fence.wide.fn 69 := trivial
  refine callsIn_of_wp Tryz.func47 rfl trivial ?_ rfl
  simp only [Tryz.ntmps47, List.size_toArray, List.length_cons, List.length_nil, Nat.reduceAdd, Nat.reduceSub, Array.replicate_succ, Array.replicate_zero, List.push_toArray, List.append_toArray, List.nil_append, List.cons_append]
  gi_wp2
  refine ⟨fun _ => by omega, HA.out.mono ?_⟩
  rintro e w1 ⟨v, rfl, h2, h3⟩
  have H23 := Lib.hid (And.intro h2 h3)
  clear h2 h3
  gi_wp2
  refine bodyPost_ret (results_tmp rfl _ _ _) rfl ?_
  exact ⟨v, rfl, H23.out.1, H23.out.2⟩
end Go.Proofs.YtlpgandflkabcaaGreatDoor
