/-
  Names: the program's Find.
-/
import Derived.Test.YtlifdfkconklfaaDoorFNnA
import Derived.WalkMore
namespace Go.Proofs.YtlifdfkconklfaaDoor
open Go Go.RowKit Go.Shelf
set_option linter.unusedVariables false
set_option linter.unusedSimpArgs false
attribute [local go_sem] Oper.semAt_some

section
variable {F : Fence} {n : Nat} {P : Program} {ops : Array Oper} {rest : List Oper} {Q : Exit → Act → World → Prop} {a : Act} {w : World}
def LoadGoalIn (F : Fence) (n : Nat) (P : Program) (ops : Array Oper) (Q : Exit → Act → World → Prop) (rest : List Oper) (o : Oper) (T : TypeId) (x : Operand) (a : Act) (w : World) : Prop := o.op = .load T x → wpListIn F n P ops Q (o :: rest) a w
theorem wplIn_load (T : TypeId) {x : Operand} {d : Option Tmp} {ty : TypeId} {pos : String} {af : Array Edge} {g : Option (Nat × Bool)} (h : LoadGoalIn F n P ops Q rest ⟨d, .load T x, ty, pos, af, g⟩ T x a w) :
    wpListIn F n P ops Q (⟨d, .load T x, ty, pos, af, g⟩ :: rest) a w := h rfl
theorem LoadGoalIn.mid {o : Oper} {T : TypeId} {x : Operand} (cs : Array Value) {b off : Nat} (hx : a.eval x = .pointer (some ⟨b, off, none⟩)) (hc : w.rangeAt b off cs.toList) {d : TypeDesc} (hu : P.underlying T = some d) (hd : d.isRow = true)
    (hi : (P.info? T).map (·.size) = some cs.size) (hw : Region.wanted o (yielded ops a.tmps) = true) (h : wpListIn F n P ops Q rest (a.put o.dst (.agg cs)) w) : LoadGoalIn F n P ops Q rest o T x a w := by
  intro ho
  unfold wpListIn
  rw [if_pos hw]
  refine ⟨fun f hf => by simp [Oper.about, ho] at hf, ?_⟩
  rw [Oper.semAt_eq _ _ _ (fun c e => by rw [ho] at e; cases e)]
  have hrun : (execOp a.eval o).run P w = .ok (.value (.agg cs)) w := by
    unfold execOp
    simp only [ho, hx, Instr.loadAt, Instr.sureAddr, Sem.run_bind, Sem.run_pure, Result.andThen_ok, run_loadVar_mid w b off T cs.toList d hc hu hd (by rw [hi]; simp)]
  rw [hrun]
  exact h
end

theorem SymsV.shape {w : World} {v : Value} {l : List SymD} (h : SymsV w v l) : ∃ p m c, v = .slice p m c := by
  rcases h with ⟨rfl, rfl⟩ | ⟨b, off, cap, rfl, h⟩
  · exact ⟨_, _, _, rfl⟩
  · exact ⟨_, _, _, rfl⟩
theorem chain_any (a b c name : List UInt8) (N : Nat) (w : World) :
    Calls Tryd.prog 29 #[.agg (tabV a b c), .string (mkB name), .int .i64 N] w fun e w' =>
      e = .returned (.func (.func 54) #[] #[.pointer (some ⟨w.heap.size, 0, none⟩), .pointer (some ⟨w.heap.size + 1, 0, none⟩), .pointer (some ⟨w.heap.size + 1 + 1, 0, none⟩)]) ∧
      w' = ((w.alloc (.cells (tabV a b c) 23)).alloc (.cells #[.string (mkB name)] 9)).alloc (.cells #[.int .i64 N] 3) := by
  have hmf : ∀ (fn : Fn) (first cap : Array Value) (w : World), (Instr.makeFunc fn first cap).run Tryd.prog w = .ok (.func fn first cap) w := fun _ _ _ _ => rfl
  go_enter Tryd.func29, Tryd.ntmps29
  go_wp2
  go_ret
  exact ⟨rfl, rfl⟩

/-- The places of a way, none of them the name's. -/
def noneGood (l : List SymD) (name : List UInt8) (pre : List (Fin l.length)) : Prop := ∀ x ∈ pre, goodAt l name x.val = false
theorem noneGood_find {l : List SymD} {name : List UInt8} {pre : List (Fin l.length)} {ks : List Nat} (h : noneGood l name pre) (e : pre.map Fin.val = ks) : ks.find? (goodAt l name) = none := by
  subst e
  rw [List.find?_eq_none]
  intro x hx
  obtain ⟨y, hy, rfl⟩ := List.mem_map.1 hx
  rw [h y hy]; simp
theorem someGood_find {l : List SymD} {name : List UInt8} {pre : List (Fin l.length)} {x : Fin l.length} {ks : List Nat} (h : noneGood l name pre) (hx : goodAt l name x.val = true) (e : (pre ++ [x]).map Fin.val <+: ks) : ks.find? (goodAt l name) = some x.val := by
  obtain ⟨r, rfl⟩ := e
  rw [List.map_append, List.append_assoc, List.find?_append, noneGood_find h rfl]
  simp [hx]

theorem noneGood_snoc {l : List SymD} {name : List UInt8} {pre : List (Fin l.length)} {x : Fin l.length} (h : noneGood l name pre) (hx : goodAt l name x.val = false) : noneGood l name (pre ++ [x]) := by
  intro y hy
  rcases List.mem_append.1 hy with hy | hy
  · exact h y hy
  · rw [List.mem_singleton.1 hy]; exact hx
theorem chain_stops (n : Nat) (hn : 1 ≤ n) (b1 b2 b3 : Nat) (hb name : List UInt8) (N : Nat) (hhb : hb.length ≤ 1000000) (hname : name.length ≤ 1000000) (hN : N ≤ 1000000) (w : World)
    (hb1 : b1 < w.heap.size) (hb2 : b2 < w.heap.size) (hb3 : b3 < w.heap.size) (hc1 : w.cell? ⟨b1, 2, none⟩ = some (.string (mkB hb))) (hc2 : w.cell? ⟨b2, 0, none⟩ = some (.string (mkB name))) (hc3 : w.cell? ⟨b3, 0, none⟩ = some (.int .i64 N)) :
    SeqStopsK Fence.wide n Tryd.prog 54 #[.pointer (some ⟨b1, 0, none⟩), .pointer (some ⟨b2, 0, none⟩), .pointer (some ⟨b3, 0, none⟩)] (fun x : Fin N => #[.int .i64 (x.val : Nat)]) (Below w.heap.size)
      (fun ys => ys.map Fin.val = chainL hb name N) (fun pre => pre.map Fin.val <+: chainL hb name N) (N + 1) w := fun l J Jx W hW hJ hJx hY h0 =>
  chain_in n hn l w.heap.size b1 b2 b3 hb name N hhb hname hN J Jx W hJ hJx hY hb1 hb2 hb3 hW.size ((hW.cell (p := ⟨b1, 2, none⟩) hb1).trans hc1) ((hW.cell (p := ⟨b2, 0, none⟩) hb2).trans hc2) ((hW.cell (p := ⟨b3, 0, none⟩) hb3).trans hc3) h0

set_option maxHeartbeats 4000000 in
set_option maxRecDepth 100000 in
theorem find_in (n : Nat) (hn : 3 ≤ n) (syms strs hb name : List UInt8) (hl : syms.length ≤ 1000000) (hst : strs.length ≤ 1000000) (hhb : hb.length ≤ 1000000) (hnm : name.length ≤ 1000000) (w : World) :
    CallsIn Fence.wide n Tryd.prog 11 #[.agg (tabV syms strs hb), .string (mkB name)] w (FindPost (findF syms strs hb name) w) := by
  have h1 : 1 ≤ n := by omega
  have HRD : Hid (∀ w, Calls Tryd.prog 9 #[.agg (tabV syms strs hb)] w (ReadPost (readF syms strs) w)) := Lib.hid (fun w => read_any syms strs hb hl hst w)
  have HHB := Lib.hid hhb
  have HNM := Lib.hid hnm
  have HSTR : Hid (strs.length ≤ 140737488351232) := Lib.hid (by omega)
  have HTS := Lib.hid (tab_size syms strs hb)
  obtain ⟨R, hR⟩ : ∃ R, R = readF syms strs := ⟨_, rfl⟩
  have HR := Lib.hid hR
  rw [← hR] at HRD
  clear hR hl hst hhb hnm
  refine callsIn_of_wp_marks Tryd.func11 rfl trivial ?_ rfl
  simp only [Tryd.ntmps11, List.size_toArray, List.length_cons, List.length_nil, Nat.reduceAdd, Nat.reduceSub, Array.replicate_succ, Array.replicate_zero, List.push_toArray, List.append_toArray, List.nil_append, List.cons_append]
  refine wpIn_wide.2 ?_
  go_upto_region 1 with fail
  obtain ⟨W, hW⟩ : ∃ W, W = (w.alloc (.cells (tabV syms strs hb) 23)).alloc (.cells #[.string (mkB name)] 9) := ⟨_, rfl⟩
  have HROW : Hid (W.heap[w.heap.size]? = some (.cells (tabV syms strs hb) 23)) := Lib.hid (by rw [hW]; exact (heap_old _ _ _ (by simp only [heap_len]; omega)).trans (heap_new _ _ _ rfl))
  have HNMC : Hid (W.heap[w.heap.size + 1]? = some (.cells #[.string (mkB name)] 9)) := Lib.hid (by rw [hW]; exact heap_new _ _ _ (by simp only [heap_len]))
  have HWB : Hid (Below w.heap.size w W ∧ w.heap.size + 1 < W.heap.size) := Lib.hid ⟨by rw [hW]; exact ((Below.refl _ _).alloc (Nat.le_refl _) _).alloc (by simp only [heap_len]; omega) _, by rw [hW]; simp only [heap_len]; omega⟩
  rw [← hW]
  clear hW
  refine wp_scope_straight ?_
  go_upto_region 2 with (first
    | (refine wpl_load 23 ?_; refine LoadGoal.of (tabV syms strs hb) rfl HROW.out (by kernel_rfl) HTS.out rfl ?_)
    | (go_at_call 9; refine (HRD.out _).mono ?_; rintro e w1 ⟨v, rfl, hsv, hb1⟩; obtain ⟨vp, vm, vc, rfl⟩ := hsv.shape; have HSV := Lib.hid hsv; have HB1 : Hid (Below W.heap.size W w1) := Lib.hid hb1; clear hsv hb1))
  have HBB : Hid (Below w.heap.size w w1) := Lib.hid (HWB.out.1.trans (HB1.out.mono HWB.out.1.size))
  have HLW : Hid (w.heap.size + 1 < w1.heap.size) := Lib.hid (Nat.lt_of_lt_of_le HWB.out.2 HB1.out.size)
  have HT1 : Hid (w1.heap[w.heap.size]? = some (.cells (tabV syms strs hb) 23)) := Lib.hid ((HB1.out.block _ (Nat.lt_of_succ_lt HWB.out.2)).trans HROW.out)
  have HN1 : Hid (w1.heap[w.heap.size + 1]? = some (.cells #[.string (mkB name)] 9)) := Lib.hid ((HB1.out.block _ HWB.out.2).trans HNMC.out)
  clear HROW HNMC HB1 HWB HRD
  cases R with
  | none =>
    have hres : Hid (findF syms strs hb name = none) := Lib.hid (by rw [findF, ← HR.out]; rfl)
    have hBB := (HBB.out.alloc HBB.out.size (.cells #[.slice vp vm vc] 26))
    have HB := Lib.hid hBB; clear hBB
    clear HSV
    simp only [Option.isSome_none, Bool.false_eq_true, if_false]
    go_wp2
    exact ⟨_, results_tmp2 rfl _ _ _, by rw [hres.out]; rfl, HB.out⟩
  | some l =>
    obtain ⟨hall, hlen⟩ := readF_ok HR.out.symm HSTR.out
    have HALL := Lib.hid hall
    clear hall
    have hli : (l.length : Int) ≤ 201 := by omega
    have hres0 : Hid (findF syms strs hb name = (chainL hb name l.length).find? (goodAt l name)) := Lib.hid (by rw [findF, ← HR.out, ← findL_chain]; rfl)
    have hm : vm = l.length := by rcases HSV.out with ⟨hv, hl0⟩ | ⟨b, off, cap, hv, hat⟩ <;> cases hv
                                  · rw [show l = [] from hl0]; rfl
                                  · rfl
    subst hm
    have HSV2 : Hid (SymsV w1 (.slice vp l.length vc) l) := Lib.hid HSV.out
    clear HSV HR
    simp only [Option.isSome_some, if_true]
    go_wp2
    go_step3
    go_upto_region 5 with fail
    obtain ⟨W2, hW2⟩ : ∃ W2, W2 = ((w1.alloc (.cells #[.slice vp l.length vc] 26)).alloc (.cells #[.int .i64 0] 3)).alloc (.cells #[.bool false] 4) := ⟨_, rfl⟩
    have HZ2 : Hid (W2.heap.size = w1.heap.size + 3) := Lib.hid (by rw [hW2]; simp only [heap_len])
    have HB2 : Hid (Below w1.heap.size w1 W2) := Lib.hid (by rw [hW2]; exact (((Below.refl _ _).alloc (Nat.le_refl _) _).alloc (by simp only [heap_len]; omega) _).alloc (by simp only [heap_len]; omega) _)
    have HL2 : Hid (W2.heap[w1.heap.size]? = some (.cells #[.slice vp l.length vc] 26)) := Lib.hid (by rw [hW2]; exact (heap_old _ _ _ (by simp only [heap_len]; omega)).trans ((heap_old _ _ _ (by simp only [heap_len]; omega)).trans (heap_new _ _ _ rfl)))
    have HF2 : Hid (W2.heap[w1.heap.size + 1]? = some (.cells #[.int .i64 0] 3)) := Lib.hid (by rw [hW2]; exact (heap_old _ _ _ (by simp only [heap_len]; omega)).trans (heap_new _ _ _ (by simp only [heap_len])))
    have HO2 : Hid (W2.heap[w1.heap.size + 1 + 1]? = some (.cells #[.bool false] 4)) := Lib.hid (by rw [hW2]; exact heap_new _ _ _ (by simp only [heap_len]))
    rw [← hW2]
    clear hW2
    have HT2 : Hid (W2.heap[w.heap.size]? = some (.cells (tabV syms strs hb) 23)) := Lib.hid ((HB2.out.block _ (Nat.lt_of_succ_lt HLW.out)).trans HT1.out)
    have HN2 : Hid (W2.heap[w.heap.size + 1]? = some (.cells #[.string (mkB name)] 9)) := Lib.hid ((HB2.out.block _ HLW.out).trans HN1.out)
    have c1 : W2.cell? ⟨w.heap.size + 1, 0, none⟩ = some (.string (mkB name)) := cell_at HN2.out rfl
    have c2 : W2.cell? ⟨w1.heap.size, 0, none⟩ = some (.slice vp l.length vc) := cell_at HL2.out rfl
    clear HT1 HN1
    go_upto_region 10 with (first
      | (refine wpl_load 23 ?_; refine LoadGoal.of (tabV syms strs hb) rfl HT2.out (by kernel_rfl) HTS.out rfl ?_)
      | (go_at_call 29; refine (chain_any syms strs hb name l.length _).mono ?_; rintro e w' ⟨rfl, rfl⟩))
    obtain ⟨W3, hW3⟩ : ∃ W3, W3 = ((W2.alloc (.cells (tabV syms strs hb) 23)).alloc (.cells #[.string (mkB name)] 9)).alloc (.cells #[.int .i64 l.length] 3) := ⟨_, rfl⟩
    have HZ3 : Hid (W3.heap.size = W2.heap.size + 3) := Lib.hid (by rw [hW3]; simp only [heap_len])
    have HB3 : Hid (Below W2.heap.size W2 W3) := Lib.hid (by rw [hW3]; exact (((Below.refl _ _).alloc (Nat.le_refl _) _).alloc (by simp only [heap_len]; omega) _).alloc (by simp only [heap_len]; omega) _)
    have k1 : W3.cell? ⟨W2.heap.size, 2, none⟩ = some (.string (mkB hb)) := cell_at (cs := tabV syms strs hb) (by rw [hW3]; exact (heap_old _ _ _ (by simp only [heap_len]; omega)).trans ((heap_old _ _ _ (by simp only [heap_len]; omega)).trans (heap_new _ _ _ rfl))) rfl
    have k2 : W3.cell? ⟨W2.heap.size + 1, 0, none⟩ = some (.string (mkB name)) := cell_at (by rw [hW3]; exact (heap_old _ _ _ (by simp only [heap_len]; omega)).trans (heap_new _ _ _ (by simp only [heap_len]))) rfl
    have k3 : W3.cell? ⟨W2.heap.size + 1 + 1, 0, none⟩ = some (.int .i64 l.length) := cell_at (by rw [hW3]; exact heap_new _ _ _ (by simp only [heap_len])) rfl
    rw [← hW3]
    clear hW3 c1 c2
    have HBW : Hid (Below w.heap.size w W3) := Lib.hid (HBB.out.trans ((HB2.out.trans (HB3.out.mono HB2.out.size)).mono HBB.out.size))
    have HF3 : Hid (W3.heap[w1.heap.size + 1]? = some (.cells #[.int .i64 0] 3)) := Lib.hid ((HB3.out.block _ (by rw [HZ2.out]; omega)).trans HF2.out)
    have HO3 : Hid (W3.heap[w1.heap.size + 1 + 1]? = some (.cells #[.bool false] 4)) := Lib.hid ((HB3.out.block _ (by rw [HZ2.out]; omega)).trans HO2.out)
    have HL3 : Hid (W3.heap[w1.heap.size]? = some (.cells #[.slice vp l.length vc] 26)) := Lib.hid ((HB3.out.block _ (by rw [HZ2.out]; omega)).trans HL2.out)
    have HN3 : Hid (W3.heap[w.heap.size + 1]? = some (.cells #[.string (mkB name)] 9)) := Lib.hid ((HB3.out.block _ (by have := HLW.out; rw [HZ2.out]; omega)).trans HN2.out)
    have HSV3 : Hid (SymsV W3 (.slice vp l.length vc) l) := Lib.hid (HSV2.out.below (HB2.out.trans (HB3.out.mono HB2.out.size)))
    have HSZ : Hid (w1.heap.size + 6 = W3.heap.size ∧ w.heap.size + 1 < w1.heap.size) := Lib.hid ⟨by rw [HZ3.out, HZ2.out], HLW.out⟩
    clear HF2 HO2 HL2 HN2 HT2 HSV2 HBB HLW HB2 
    have HST := Lib.hid (chain_stops (n - 1) (by omega) W2.heap.size (W2.heap.size + 1) (W2.heap.size + 1 + 1) hb name l.length HHB.out HNM.out (by omega) W3 (by rw [HZ3.out]; omega) (by rw [HZ3.out]; omega) (by rw [HZ3.out]; omega) k1 k2 k3)
    clear k1 k2 k3 HZ2 HZ3 HB3
    refine (wpIn_wide (n := n)).1 ?_
    refine wpIn_rangeFunc_ownF rfl h1 (gf := 54) (lb := #[.pointer (some ⟨W2.heap.size, 0, none⟩), .pointer (some ⟨W2.heap.size + 1, 0, none⟩), .pointer (some ⟨W2.heap.size + 1 + 1, 0, none⟩)]) rfl trivial (enters_of Tryd.func54 (by kernel_rfl) rfl)
      HST.out belowK_t (belowK_b (Nat.le_refl _)) (Below.refl _ _) (fun _ => rfl)
      (fun pre W => noneGood l name pre ∧ Below W3.heap.size W3 W)
      (fun c pre W => c = .exit 0 ∧ (∃ q x, pre = q ++ [x] ∧ noneGood l name q ∧ goodAt l name x.val = true ∧ W.cell? ⟨w1.heap.size + 1, 0, none⟩ = some (.int .i64 (x.val : Nat)) ∧ W.cell? ⟨w1.heap.size + 1 + 1, 0, none⟩ = some (.bool true)) ∧ Below w.heap.size w W)
      (fun s A B row hs hg hr => ⟨hs.1, ownFrom_below (β := Unit) (B := W3.heap.size) (Nat.le_refl _) (Nat.le_refl _) () A B row hs.2 hg hr⟩)
      (fun c s A B row hs hg hr => ⟨hs.1, by obtain ⟨_, ⟨q, x, hx, a1, a2, a3, a4⟩, a5⟩ := hs; exact ⟨q, x, hx, a1, a2, cell_kept a3 hg (fun r e => (hr r e).2), cell_kept a4 hg (fun r e => (hr r e).2)⟩, ownFrom_below (β := Unit) (B := W3.heap.size) (Nat.le_refl _) (HBW.out.size) () A B row hs.2.2 hg hr⟩)
      ⟨fun x hx => (by cases hx), Below.refl _ _⟩
      (fun x => { tmps := #[.agg (tabV syms strs hb), .string (mkB name), .pointer (some ⟨w.heap.size, 0, none⟩), .pointer (some ⟨w.heap.size + 1, 0, none⟩), .int .i64 0, .bool false, .pointer (some ⟨w1.heap.size, 0, none⟩), .int .i64 0, .pointer (some ⟨w1.heap.size + 1, 0, none⟩), .pointer (some ⟨w1.heap.size + 1 + 1, 0, none⟩), .int .i64 (x.val : Nat), undef,
        .tuple #[.slice vp l.length vc, .int .i64 0], .agg (tabV syms strs hb), .tuple #[.slice vp l.length vc, .int .i64 0], .slice vp l.length vc, .int .i64 0, .int .i64 0, .bool false, .agg (tabV syms strs hb), .string (mkB name), .slice vp l.length vc, .int .i64 l.length,
        .func (.func 54) #[] #[.pointer (some ⟨W2.heap.size, 0, none⟩), .pointer (some ⟨W2.heap.size + 1, 0, none⟩), .pointer (some ⟨W2.heap.size + 1 + 1, 0, none⟩)], .int .i64 (x.val : Nat), undef, undef, undef, undef, undef, undef, undef, undef, undef, undef, undef, undef, undef, undef, undef, undef, undef, undef, undef, undef, undef], defers := [] }) ?assign ?body ?done ?stop
    case assign =>
      intro l x W K hK
      gi_wp2
      exact hK
    case body =>
      rintro fl pre x W ⟨hng, hB⟩ hlen
      have HNG := Lib.hid hng; have HBX := Lib.hid hB
      obtain ⟨b, off, hvp, hat⟩ : ∃ b off, vp = some ⟨b, off, none⟩ ∧ SymsAt W3 b off l := by
        rcases HSV3.out with ⟨hv, hl0⟩ | ⟨b, off, cap, hv, hat⟩
        · have h1 := x.isLt; have h2 := congrArg List.length hl0; rw [List.length_nil] at h2; omega
        · cases hv; exact ⟨b, off, rfl, hat⟩
      subst hvp
      obtain ⟨S, hS⟩ : ∃ S, S = l[x.val] := ⟨_, rfl⟩
      have HR : Hid (W.rangeAt b (off + x.val * 5) (symV S).toList) := Lib.hid (by rw [hS]; exact (hat.below hB).at_ x.val x.isLt)
      have hga : Hid (goodAt l name x.val = good name S) := Lib.hid (by rw [hS]; exact goodAt_is x.isLt)
      have hxl : ((x.val : Nat) : Int) < (l.length : Int) := by have := x.isLt; omega
      clear hS
      obtain ⟨j, hj⟩ : ∃ j, j = x.val := ⟨_, rfl⟩
      have HJX := Lib.hid hj
      rw [← hj] at HR hxl ⊢
      have hz3 := HSZ.out.1
      have hz4 := hB.size
      have c1 : W.cell? ⟨w.heap.size + 1, 0, none⟩ = some (.string (mkB name)) := (hB.cell (p := ⟨w.heap.size + 1, 0, none⟩) (by have := HSZ.out.2; show w.heap.size + 1 < _; omega)).trans (cell_at HN3.out rfl)
      have c2 : W.cell? ⟨w1.heap.size, 0, none⟩ = some (.slice (some ⟨b, off, none⟩) l.length vc) := (hB.cell (p := ⟨w1.heap.size, 0, none⟩) (by show w1.heap.size < _; omega)).trans (cell_at HL3.out rfl)
      have g3 : W.heap[w1.heap.size + 1]? = some (.cells #[.int .i64 0] 3) := (hB.block _ (by omega)).trans HF3.out
      have g4 : W.heap[w1.heap.size + 1 + 1]? = some (.cells #[.bool false] 4) := (hB.block _ (by omega)).trans HO3.out
      have c3 := cell_at (o := 0) g3 rfl
      have c4 := cell_at (o := 0) g4 rfl
      have c5 := free_at (o := 0) g3
      have c6 := free_at (o := 0) g4
      clear g3 g4 hat hB hng hj hlen
      obtain ⟨nm, sv, sz, sb, sp⟩ := S
      have d0 : W.cell? ⟨b, off + j * 5, none⟩ = some (.string (mkB nm)) := HR.out 0 _ rfl
      have d1 : W.cell? ⟨b, off + j * 5 + 1, none⟩ = some (.int .u32 sv) := HR.out 1 _ rfl
      have d2 : W.cell? ⟨b, off + j * 5 + 2, none⟩ = some (.int .u32 sz) := HR.out 2 _ rfl
      have d3 : W.cell? ⟨b, off + j * 5 + 3, none⟩ = some (.int .i64 sb) := HR.out 3 _ rfl
      have d4 : W.cell? ⟨b, off + j * 5 + 4, none⟩ = some (.int .i64 sp) := HR.out 4 _ rfl
      have h1w : 1 ≤ n - 1 - 1 := by omega
      have n1 : w.heap.size + 1 < W.heap.size := by have := HSZ.out.2; omega
      have n2 : w1.heap.size < W.heap.size := by omega
      have n3 : w1.heap.size + 1 < W.heap.size := by omega
      have n4 : w1.heap.size + 1 + 1 < W.heap.size := by omega
      clear hz3 hz4
      by_cases e1 : nm = name
      · subst e1
        by_cases e2 : sp = 0
        · have hbad : good nm ⟨nm, sv, sz, sb, sp⟩ = false := by rw [good, e2]; simp
          have HBAD := Lib.hid hbad; clear hbad
          subst e2
          gi_wp2
          exact ⟨KeepsOthers.alloc _ _, (Below.refl _ _).alloc HBX.out.size _, noneGood_snoc HNG.out (hga.out.trans HBAD.out), HBX.out.alloc HBX.out.size _⟩
        · have e2' : (sp != 0) = true := by rw [bne_iff_ne]; exact e2
          by_cases e3 : sb = 0
          · have hbad : good nm ⟨nm, sv, sz, sb, sp⟩ = false := by rw [good, e3]; simp
            have HBAD := Lib.hid hbad; clear hbad
            subst e3
            gi_wp2
            exact ⟨KeepsOthers.alloc _ _, (Below.refl _ _).alloc HBX.out.size _, noneGood_snoc HNG.out (hga.out.trans HBAD.out), HBX.out.alloc HBX.out.size _⟩
          · have hgd : good nm ⟨nm, sv, sz, sb, sp⟩ = true := by simp [good, e2, e3]
            have HGD := Lib.hid hgd; clear hgd
            have e3' : (sb != 0) = true := by rw [bne_iff_ne]; exact e3
            gi_wp2
            refine ⟨((KeepsOthers.setCell _ _ _).trans (KeepsOthers.setCell _ _ _)).trans (KeepsOthers.alloc _ _), rfl, ⟨pre, x, rfl, HNG.out, hga.out.trans HGD.out, ?_, ?_⟩, ?_⟩
            · rw [← HJX.out, World.cell?_alloc_old _ _ _ (by simp; omega), World.cell?_setCell_other _ _ _ _ (by simp)]
              exact World.cell?_setCell_same' _ _ _ (by rw [c3]; rfl)
            · rw [World.cell?_alloc_old _ _ _ (by simp; omega)]
              exact World.cell?_setCell_same' _ _ _ (by rw [World.cell?_setCell_other _ _ _ _ (by simp), c4]; rfl)
            · exact (((HBW.out.trans (HBX.out.mono HBW.out.size)).setCell (p := ⟨w1.heap.size + 1, 0, none⟩) (by have := HSZ.out.2; show w.heap.size ≤ w1.heap.size + 1; omega) _).setCell (p := ⟨w1.heap.size + 1 + 1, 0, none⟩) (by have := HSZ.out.2; show w.heap.size ≤ w1.heap.size + 1 + 1; omega) _).alloc (by simpa [World.setCell] using Nat.le_trans HBW.out.size HBX.out.size) _
      · have hne2 : ((mkB nm).toList == (mkB name).toList) = false := by rw [bytes_toList, bytes_toList]; exact beq_eq_false_iff_ne.2 e1
        have hne1 : mkB nm ≠ mkB name := fun e => e1 (mkB_inj.1 e)
        have hbad : good name ⟨nm, sv, sz, sb, sp⟩ = false := by simp [good, e1]
        have HBAD := Lib.hid hbad; clear hbad e1
        gi_wp2
        exact ⟨KeepsOthers.alloc _ _, (Below.refl _ _).alloc HBX.out.size _, noneGood_snoc HNG.out (hga.out.trans HBAD.out), HBX.out.alloc HBX.out.size _⟩
    case done =>
      rintro D ys W hD hys ⟨hng, hB⟩ hK
      have hres : Hid (findF syms strs hb name = none) := Lib.hid (by rw [hres0.out]; exact noneGood_find hng hys)
      have hz3 := HSZ.out.1
      have hz4 := hB.size
      have c3 : W.cell? ⟨w1.heap.size + 1, 0, none⟩ = some (.int .i64 0) := cell_at ((hB.block _ (by omega)).trans HF3.out) rfl
      have c4 : W.cell? ⟨w1.heap.size + 1 + 1, 0, none⟩ = some (.bool false) := cell_at ((hB.block _ (by omega)).trans HO3.out) rfl
      have HBF : Hid (Below w.heap.size w W) := Lib.hid (HBW.out.trans (hB.mono HBW.out.size))
      have HD : Hid (w.heap.size ≤ D) := Lib.hid (Nat.le_trans HBW.out.size hD)
      have HK := Lib.hid hK
      clear hB hng hys hz3 hz4 hD hK
      go_wp2
      go_quiet (fail)
      go_wp2
      refine ⟨by simp, .inl ⟨_, _, rfl, run_takeDeferred HK.out, ?_⟩⟩
      exact ⟨_, results_tmp2 rfl _ _ _, by rw [hres.out]; rfl, (below_drewN HBF.out _).trans (belowK_b (w := w) (Nat.le_refl _) _ D _ _ HD.out HK.out rfl rfl)⟩
    case stop =>
      rintro D c pre W hD hp ⟨rfl, ⟨q, x, rfl, a1, a2, c3, c4⟩, hB⟩ hK
      have hres : Hid (findF syms strs hb name = some x.val) := Lib.hid (by rw [hres0.out]; exact someGood_find a1 a2 hp)
      have HBF := Lib.hid hB
      have HD : Hid (w.heap.size ≤ D) := Lib.hid (Nat.le_trans HBW.out.size hD)
      have HK := Lib.hid hK
      clear hB a1 a2 hp hD hK
      refine wpIn_wide.2 ?_
      go_wp2
      go_quiet (fail)
      go_wp2
      refine ⟨by simp, .inl ⟨_, _, rfl, run_takeDeferred HK.out, ?_⟩⟩
      exact ⟨_, results_tmp2 rfl _ _ _, by rw [hres.out]; rfl, (below_drewN HBF.out _).trans (belowK_b (w := w) (Nat.le_refl _) _ D _ _ HD.out HK.out rfl rfl)⟩
theorem find_any (syms strs hb name : List UInt8) (hl : syms.length ≤ 1000000) (hst : strs.length ≤ 1000000) (hhb : hb.length ≤ 1000000) (hnm : name.length ≤ 1000000) (w : World) :
    Calls Tryd.prog 11 #[.agg (tabV syms strs hb), .string (mkB name)] w (FindPost (findF syms strs hb name) w) :=
  (callsIn_wide (n := 3)).1 (find_in 3 (by omega) syms strs hb name hl hst hhb hnm w)
end Go.Proofs.YtlifdfkconklfaaDoor
