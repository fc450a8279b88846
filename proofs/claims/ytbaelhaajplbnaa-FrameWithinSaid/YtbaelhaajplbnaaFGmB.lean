/-
  The guest's bytes: the first fault of some bytes.
-/
import Derived.Test.YtbaelhaajplbnaaFGmA
import Derived.Test.YtbaelhaajplbnaaFHoE
import Derived.Test.YtbaelhaajplbnaaFHoK
namespace Go.Proofs.Ytbaelhaajplbnaa
open Go Go.RowKit Go.Shelf
set_option linter.unusedVariables false
set_option linter.unusedSimpArgs false
attribute [local go_sem] Oper.semAt_some

theorem span_any (a n base : Nat) (need : Int) (vm vc vp : Value) (w : World) :
    Calls Try.prog 55 #[.agg (guestV vm vc base vp), .int .u32 a, .int .i64 n, .int .i64 need] w fun e w' =>
      e = .returned (.func (.func 63) #[] #[.pointer (some ⟨w.heap.size + 1, 0, none⟩), .pointer (some ⟨w.heap.size + 1 + 1, 0, none⟩), .pointer (some ⟨w.heap.size, 0, none⟩), .pointer (some ⟨w.heap.size + 1 + 1 + 1, 0, none⟩)]) ∧
      w' = (((w.alloc (.cells (guestV vm vc base vp) 33)).alloc (.cells #[.int .u32 a] 22)).alloc (.cells #[.int .i64 n] 3)).alloc (.cells #[.int .i64 need] 3) := by
  have hmf : ∀ (fn : Fn) (first cap : Array Value) (w : World), (Instr.makeFunc fn first cap).run Try.prog w = .ok (.func fn first cap) w := fun _ _ _ _ => rfl
  go_enter Try.func55, Try.ntmps55
  go_wp2
  go_ret
  exact ⟨rfl, rfl⟩

def noneBad (ps : List PageD) (need : Int) (a : Nat) {n : Nat} (pre : List (Fin n)) : Prop := ∀ x ∈ pre, (kindL ps need (a + x.val) != 0) = false
theorem put_ne (w : World) (b k : Nat) (o : Obj) (h : k ≠ b) : (w.putObj b o).heap[k]? = w.heap[k]? := by
  simp only [World.putObj, Array.set!_eq_setIfInBounds, Array.getElem?_setIfInBounds]
  rw [if_neg (fun e => h e.symm)]
theorem noneBad_find {ps : List PageD} {need : Int} {a n : Nat} {pre : List (Fin n)} {ks : List Nat} (h : noneBad ps need a pre) (e : pre.map Fin.val = ks) : ks.find? (fun i => kindL ps need (a + i) != 0) = none := by
  subst e
  rw [List.find?_eq_none]
  intro x hx
  obtain ⟨y, hy, rfl⟩ := List.mem_map.1 hx
  rw [h y hy]; simp
theorem someBad_find {ps : List PageD} {need : Int} {a n : Nat} {pre : List (Fin n)} {x : Fin n} {ks : List Nat} (h : noneBad ps need a pre) (hx : (kindL ps need (a + x.val) != 0) = true) (e : (pre ++ [x]).map Fin.val <+: ks) : ks.find? (fun i => kindL ps need (a + i) != 0) = some x.val := by
  obtain ⟨r, rfl⟩ := e
  rw [List.map_append, List.append_assoc, List.find?_append, noneBad_find h rfl]
  simp only [List.map_cons, List.map_nil, List.singleton_append, List.find?_cons, hx, Option.none_or]
theorem noneBad_snoc {ps : List PageD} {need : Int} {a n : Nat} {pre : List (Fin n)} {x : Fin n} (h : noneBad ps need a pre) (hx : (kindL ps need (a + x.val) != 0) = false) : noneBad ps need a (pre ++ [x]) := by
  intro y hy
  rcases List.mem_append.1 hy with hy | hy
  · exact h y hy
  · rw [List.mem_singleton.1 hy]; exact hx

theorem span_stops (f : Nat) (hf : 1 ≤ f) (b1 b2 b3 b4 : Nat) (ps : List PageD) (hr : Rise PageD.num ps) (hlen : ps.length ≤ 1000000) (a n base : Nat) (need : Int) (ha : a < 4294967296) (hn : n ≤ 1000000) (vm vc vp : Value) (w : World)
    (hb1 : b1 < w.heap.size) (hb2 : b2 < w.heap.size) (hb3 : b3 < w.heap.size) (hb4 : b4 < w.heap.size) (hc1 : w.cell? ⟨b1, 0, none⟩ = some (.int .u32 a)) (hc2 : w.cell? ⟨b2, 0, none⟩ = some (.int .i64 n)) (hc3 : w.heap[b3]? = some (.cells (guestV vm vc base vp) 33)) (hc4 : w.cell? ⟨b4, 0, none⟩ = some (.int .i64 need)) (hp : PagesV w vp ps) :
    SeqStopsK Fence.wide f Try.prog 63 #[.pointer (some ⟨b1, 0, none⟩), .pointer (some ⟨b2, 0, none⟩), .pointer (some ⟨b3, 0, none⟩), .pointer (some ⟨b4, 0, none⟩)] (fun x : Fin n => #[.int .u64 (a + x.val : Nat), .int .i64 (kindL ps need (a + x.val))]) (Below w.heap.size)
      (fun ys => ys.map Fin.val = List.range n) (fun pre => pre.map Fin.val <+: List.range n) (n + 1) w := fun l J Jx W hW hJ hJx hY h0 =>
  span_in f hf l w.heap.size b1 b2 b3 b4 ps hr hlen a n base need ha hn vm vc vp J Jx W hJ hJx hY hb1 hb2 hb3 hb4 hW.size ((hW.cell (p := ⟨b1, 0, none⟩) hb1).trans hc1) ((hW.cell (p := ⟨b2, 0, none⟩) hb2).trans hc2) ((hW.block _ hb3).trans hc3) ((hW.cell (p := ⟨b4, 0, none⟩) hb4).trans hc4)
    (fun W' hW' => hp.below (hW.trans hW')) h0

set_option maxHeartbeats 4000000 in
set_option maxRecDepth 100000 in
theorem first_in (f : Nat) (hf : 3 ≤ f) (ps : List PageD) (hr : Rise PageD.num ps) (hlen : ps.length ≤ 1000000) (a n base : Nat) (need : Int) (ha : a < 4294967296) (hn : n ≤ 1000000) (vm vc vp : Value) (w : World) (hp : PagesV w vp ps) :
    CallsIn Fence.wide f Try.prog 44 #[.agg (guestV vm vc base vp), .int .u32 a, .int .i64 n, .int .i64 need] w fun e w' => e = .returned (.agg (faultL ps need a n)) ∧ Below w.heap.size w w' := by
  have h1 : 1 ≤ f := by omega
  have HP := Lib.hid hp; have HR := Lib.hid hr; have HA := Lib.hid ha; have HN := Lib.hid hn
  have HTS := Lib.hid (guest_size vm vc base vp)
  clear hp hr ha hn
  refine callsIn_of_wp_marks Try.func44 rfl trivial ?_ rfl
  simp only [Try.ntmps44, List.size_toArray, List.length_cons, List.length_nil, Nat.reduceAdd, Nat.reduceSub, Array.replicate_succ, Array.replicate_zero, List.push_toArray, List.append_toArray, List.nil_append, List.cons_append]
  refine wpIn_wide.2 ?_
  go_upto_region 1 with fail
  obtain ⟨W, hW⟩ : ∃ W, W = (w.alloc (.cells (guestV vm vc base vp) 33)).alloc (.cells #[.int .i64 0, .int .u64 0] 70) := ⟨_, rfl⟩
  have HROW : Hid (W.heap[w.heap.size]? = some (.cells (guestV vm vc base vp) 33)) := Lib.hid (by rw [hW]; exact (heap_old _ _ _ (by simp only [heap_len]; omega)).trans (heap_new _ _ _ rfl))
  have HF : Hid (W.heap[w.heap.size + 1]? = some (.cells #[.int .i64 0, .int .u64 0] 70)) := Lib.hid (by rw [hW]; exact heap_new _ _ _ (by simp only [heap_len]))
  have HWB : Hid (Below w.heap.size w W ∧ W.heap.size = w.heap.size + 2) := Lib.hid ⟨by rw [hW]; exact ((Below.refl _ _).alloc (Nat.le_refl _) _).alloc (by simp only [heap_len]; omega) _, by rw [hW]; simp only [heap_len]⟩
  rw [← hW]
  clear hW
  refine wp_scope_straight ?_
  go_wp2
  go_step3
  have d0 := cell_at (o := 0) HROW.out rfl
  have d1 := cell_at (o := 1) HROW.out rfl
  have d2 := cell_at (o := 2) HROW.out rfl
  have d3 := cell_at (o := 3) HROW.out rfl
  go_wp2_with (first
    | (refine wpl_load 33 ?_; refine LoadGoal.of (guestV vm vc base vp) rfl HROW.out (by kernel_rfl) HTS.out rfl ?_)
    | (go_at_call 55; refine (span_any a n base need vm vc vp _).mono ?_; rintro e w' ⟨rfl, rfl⟩))
  obtain ⟨W3, hW3⟩ : ∃ W3, W3 = (((W.alloc (.cells (guestV vm vc base vp) 33)).alloc (.cells #[.int .u32 a] 22)).alloc (.cells #[.int .i64 n] 3)).alloc (.cells #[.int .i64 need] 3) := ⟨_, rfl⟩
  have HZ3 : Hid (W3.heap.size = W.heap.size + 4) := Lib.hid (by rw [hW3]; simp only [heap_len])
  have HB3 : Hid (Below W.heap.size W W3) := Lib.hid (by rw [hW3]; exact ((((Below.refl _ _).alloc (Nat.le_refl _) _).alloc (by simp only [heap_len]; omega) _).alloc (by simp only [heap_len]; omega) _).alloc (by simp only [heap_len]; omega) _)
  have k3 : W3.heap[W.heap.size]? = some (.cells (guestV vm vc base vp) 33) := by rw [hW3]; exact (heap_old _ _ _ (by simp only [heap_len]; omega)).trans ((heap_old _ _ _ (by simp only [heap_len]; omega)).trans ((heap_old _ _ _ (by simp only [heap_len]; omega)).trans (heap_new _ _ _ rfl)))
  have k1 : W3.cell? ⟨W.heap.size + 1, 0, none⟩ = some (.int .u32 a) := cell_at (by rw [hW3]; exact (heap_old _ _ _ (by simp only [heap_len]; omega)).trans ((heap_old _ _ _ (by simp only [heap_len]; omega)).trans (heap_new _ _ _ (by simp only [heap_len])))) rfl
  have k2 : W3.cell? ⟨W.heap.size + 1 + 1, 0, none⟩ = some (.int .i64 n) := cell_at (by rw [hW3]; exact (heap_old _ _ _ (by simp only [heap_len]; omega)).trans (heap_new _ _ _ (by simp only [heap_len]))) rfl
  have k4 : W3.cell? ⟨W.heap.size + 1 + 1 + 1, 0, none⟩ = some (.int .i64 need) := cell_at (by rw [hW3]; exact heap_new _ _ _ (by simp only [heap_len])) rfl
  rw [← hW3]
  clear hW3 d0 d1 d2 d3
  have HBW : Hid (Below w.heap.size w W3) := Lib.hid (HWB.out.1.trans (HB3.out.mono HWB.out.1.size))
  have HF3 : Hid (W3.heap[w.heap.size + 1]? = some (.cells #[.int .i64 0, .int .u64 0] 70)) := Lib.hid ((HB3.out.block _ (by rw [HWB.out.2]; omega)).trans HF.out)
  have HSZ : Hid (w.heap.size + 6 = W3.heap.size) := Lib.hid (by rw [HZ3.out, HWB.out.2])
  have HST := Lib.hid (span_stops (f - 1) (by omega) (W.heap.size + 1) (W.heap.size + 1 + 1) W.heap.size (W.heap.size + 1 + 1 + 1) ps HR.out hlen a n base need HA.out HN.out vm vc vp W3 (by rw [HZ3.out]; omega) (by rw [HZ3.out]; omega) (by rw [HZ3.out]; omega) (by rw [HZ3.out]; omega) k1 k2 k3 k4 (HP.out.below HBW.out))
  clear k1 k2 k3 k4 HZ3 HB3 HF HROW
  refine (wpIn_wide (n := f)).1 ?_
  refine wpIn_rangeFunc_ownF rfl h1 (gf := 63) (lb := #[.pointer (some ⟨W.heap.size + 1, 0, none⟩), .pointer (some ⟨W.heap.size + 1 + 1, 0, none⟩), .pointer (some ⟨W.heap.size, 0, none⟩), .pointer (some ⟨W.heap.size + 1 + 1 + 1, 0, none⟩)]) rfl trivial (enters_of Try.func63 (by kernel_rfl) rfl)
    HST.out belowK_t (belowK_b (Nat.le_refl _)) (Below.refl _ _) (fun _ => rfl)
    (fun pre W' => noneBad ps need a pre ∧ Below W3.heap.size W3 W')
    (fun c pre W' => c = .exit 0 ∧ (∃ q x, pre = q ++ [x] ∧ noneBad ps need a q ∧ (kindL ps need (a + x.val) != 0) = true ∧ W'.heap[w.heap.size + 1]? = some (.cells #[.int .i64 (kindL ps need (a + x.val)), .int .u64 (a + x.val : Nat)] 70)) ∧ Below w.heap.size w W')
    (fun s A B row hs hg hr => ⟨hs.1, ownFrom_below (β := Unit) (B := W3.heap.size) (Nat.le_refl _) (Nat.le_refl _) () A B row hs.2 hg hr⟩)
    (fun c s A B row hs hg hr => ⟨hs.1, by obtain ⟨_, ⟨q, x, hx, a1, a2, a3⟩, a5⟩ := hs; exact ⟨q, x, hx, a1, a2, cells_grown hg (fun r e => (hr r e).2) a3⟩, ownFrom_below (β := Unit) (B := W3.heap.size) (Nat.le_refl _) (HBW.out.size) () A B row hs.2.2 hg hr⟩)
    ⟨fun x hx => (by cases hx), Below.refl _ _⟩
    (fun x => { tmps := #[.agg (guestV vm vc base vp), .int .u32 a, .int .i64 n, .int .i64 need, .pointer (some ⟨w.heap.size, 0, none⟩), undef, undef, undef, .pointer (some ⟨w.heap.size + 1, 0, none⟩), .int .u64 (a + x.val : Nat), .int .i64 (kindL ps need (a + x.val)), .agg (guestV vm vc base vp),
      .int .u32 a, .int .i64 n, .int .i64 need, .func (.func 63) #[] #[.pointer (some ⟨W.heap.size + 1, 0, none⟩), .pointer (some ⟨W.heap.size + 1 + 1, 0, none⟩), .pointer (some ⟨W.heap.size, 0, none⟩), .pointer (some ⟨W.heap.size + 1 + 1 + 1, 0, none⟩)],
      .int .u64 (a + x.val : Nat), .int .i64 (kindL ps need (a + x.val)), undef, undef, undef, undef, undef, undef], defers := [] }) ?assign ?body ?done ?stop
  case assign =>
    intro l x W K hK
    gi_wp2
    exact hK
  case body =>
    rintro fl pre x W' ⟨hng, hB⟩ hlen
    have HNG := Lib.hid hng; have HBX := Lib.hid hB
    obtain ⟨K, hKd⟩ : ∃ K, K = kindL ps need (a + x.val) := ⟨_, rfl⟩
    obtain ⟨X, hX⟩ : ∃ X : Nat, X = a + x.val := ⟨_, rfl⟩
    have HKD := Lib.hid hKd; have HXD := Lib.hid hX
    have g3 : W'.heap[w.heap.size + 1]? = some (.cells #[.int .i64 0, .int .u64 0] 70) := (hB.block _ (by have := HSZ.out; omega)).trans HF3.out
    have HG3 := Lib.hid g3
    have c0 := cell_at (o := 0) g3 rfl
    have c1 := cell_at (o := 1) g3 rfl
    have f0 := free_at (o := 0) g3
    have f1 := free_at (o := 1) g3
    rw [← hKd, ← hX]
    clear g3 hng hB hlen hKd hX
    cases hk : (K != 0)
    · gi_wp2
      exact ⟨KeepsOthers.refl _, Below.refl _ _, noneBad_snoc HNG.out (by rw [← HKD.out]; exact hk), HBX.out⟩
    · gi_wp2
      refine ⟨(KeepsOthers.setCell _ _ _).trans (KeepsOthers.setCell _ _ _), rfl, ⟨pre, x, rfl, HNG.out, by rw [← HKD.out]; exact hk, ?_⟩, ?_⟩
      · rw [← HKD.out, ← HXD.out]; exact two_set HG3.out
      · exact (((HBW.out.trans (HBX.out.mono HBW.out.size)).setCell (by show w.heap.size ≤ w.heap.size + 1; omega) _).setCell (by show w.heap.size ≤ w.heap.size + 1; omega) _)
  case done =>
    rintro D ys W' hD hys ⟨hng, hB⟩ hK
    have hres : Hid (faultL ps need a n = #[.int .i64 0, .int .u64 0]) := Lib.hid (by rw [faultL, noneBad_find hng hys])
    have g3 : W'.heap[w.heap.size + 1]? = some (.cells #[.int .i64 0, .int .u64 0] 70) := (hB.block _ (by have := HSZ.out; omega)).trans HF3.out
    have HG3 := Lib.hid g3
    have c0 := cell_at (o := 0) g3 rfl
    have c1 := cell_at (o := 1) g3 rfl
    have f0 := free_at (o := 0) g3
    have f1 := free_at (o := 1) g3
    have HBF : Hid (Below w.heap.size w W') := Lib.hid (HBW.out.trans (hB.mono HBW.out.size))
    have HD : Hid (w.heap.size ≤ D) := Lib.hid (Nat.le_trans HBW.out.size hD)
    have HK := Lib.hid hK
    clear hB hng hys hD hK g3
    go_wp2
    have HT := two_set (x := .int .i64 0) (y := .int .u64 0) HG3.out
    have hDn : D ≠ w.heap.size + 1 := fun e => by have h1 := HK.out; rw [e, HG3.out] at h1; cases h1
    have hKd : ((W'.setCell ⟨w.heap.size + 1, 0, none⟩ (.int .i64 0)).setCell ⟨w.heap.size + 1, 1, none⟩ (.int .u64 0)).heap[D]? = some (.deferred (some [])) := by
      rw [heap_set_ne _ _ _ _ _ hDn, heap_set_ne _ _ _ _ _ hDn]; exact HK.out
    refine ⟨by simp, .inl ⟨_, _, rfl, run_takeDeferred hKd, ?_⟩⟩
    refine ⟨_, res_cell rfl rfl ((put_ne _ _ _ _ hDn.symm).trans HT) (by kernel_rfl) (by show _ = some 2; kernel_rfl), by rw [hres.out], ?_⟩
    exact ((HBF.out.setCell (by show w.heap.size ≤ w.heap.size + 1; omega) _).setCell (by show w.heap.size ≤ w.heap.size + 1; omega) _).trans (belowK_b (w := w) (Nat.le_refl _) _ D _ _ HD.out hKd rfl rfl)
  case stop =>
    rintro D c pre W' hD hp ⟨rfl, ⟨q, x, rfl, a1, a2, g3⟩, hB⟩ hK
    have hres : Hid (faultL ps need a n = #[.int .i64 (kindL ps need (a + x.val)), .int .u64 (a + x.val : Nat)]) := Lib.hid (by rw [faultL, someBad_find a1 a2 hp])
    obtain ⟨K, hKd⟩ : ∃ K, K = kindL ps need (a + x.val) := ⟨_, rfl⟩
    obtain ⟨X, hX⟩ : ∃ X : Nat, X = a + x.val := ⟨_, rfl⟩
    rw [← hKd, ← hX] at g3 hres
    have HG3 := Lib.hid g3
    have c0 := cell_at (o := 0) g3 rfl
    have c1 := cell_at (o := 1) g3 rfl
    have f0 := free_at (o := 0) g3
    have f1 := free_at (o := 1) g3
    have HBF := Lib.hid hB
    have HD : Hid (w.heap.size ≤ D) := Lib.hid (Nat.le_trans HBW.out.size hD)
    have HK := Lib.hid hK
    clear hB a1 a2 hp hD hK g3 hKd hX
    refine wpIn_wide.2 ?_
    go_wp2
    have HT := two_set (x := .int .i64 K) (y := .int .u64 X) HG3.out
    have hDn : D ≠ w.heap.size + 1 := fun e => by have h1 := HK.out; rw [e, HG3.out] at h1; cases h1
    have hKd : ((W'.setCell ⟨w.heap.size + 1, 0, none⟩ (.int .i64 K)).setCell ⟨w.heap.size + 1, 1, none⟩ (.int .u64 X)).heap[D]? = some (.deferred (some [])) := by
      rw [heap_set_ne _ _ _ _ _ hDn, heap_set_ne _ _ _ _ _ hDn]; exact HK.out
    refine ⟨by simp, .inl ⟨_, _, rfl, run_takeDeferred hKd, ?_⟩⟩
    refine ⟨_, res_cell rfl rfl ((put_ne _ _ _ _ hDn.symm).trans HT) (by kernel_rfl) (by show _ = some 2; kernel_rfl), by rw [hres.out], ?_⟩
    exact ((HBF.out.setCell (by show w.heap.size ≤ w.heap.size + 1; omega) _).setCell (by show w.heap.size ≤ w.heap.size + 1; omega) _).trans (belowK_b (w := w) (Nat.le_refl _) _ D _ _ HD.out hKd rfl rfl)
theorem first_any (ps : List PageD) (hr : Rise PageD.num ps) (hlen : ps.length ≤ 1000000) (a n base : Nat) (need : Int) (ha : a < 4294967296) (hn : n ≤ 1000000) (vm vc vp : Value) (w : World) (hp : PagesV w vp ps) :
    Calls Try.prog 44 #[.agg (guestV vm vc base vp), .int .u32 a, .int .i64 n, .int .i64 need] w fun e w' => e = .returned (.agg (faultL ps need a n)) ∧ Below w.heap.size w w' :=
  (callsIn_wide (n := 3)).1 (first_in 3 (by omega) ps hr hlen a n base need ha hn vm vc vp w hp)
end Go.Proofs.Ytbaelhaajplbnaa
