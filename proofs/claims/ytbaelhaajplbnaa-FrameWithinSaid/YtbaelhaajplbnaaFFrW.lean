/-
  FrameWithin: the law's walk.
-/
import Derived.Test.YtbaelhaajplbnaaFFrD
import Derived.Test.YtbaelhaajplbnaaFFrV
namespace Go.Proofs.Ytbaelhaajplbnaa
open Go Go.RowKit
set_option linter.unusedVariables false
set_option linter.unusedSimpArgs false

theorem below_chain {B : Nat} {u v w : World} (h1 : Below B u v) (hB : B ≤ u.heap.size) (h2 : Below v.heap.size v w) : Below B u w := h1.trans (h2.mono (Nat.le_trans hB h1.size))
theorem cpu_size : (Try.prog.info? 25).map (·.size) = some cpuK.length := by kernel_rfl
theorem begin_cells {c s : Array Value} (h : c.size = 39) (k p : Nat) :
    (beginA c s k p)[4]? = some (.int .u32 ((k : Int) + 1)) ∧ (beginA c s k p)[29]? = some (.int .u32 p) ∧ (beginA c s k p)[34]? = some (.int .u32 (hdI s k)) ∧ (beginA c s k p)[35]? = some (.int .u32 ((hdI s k + 4) % 4294967296)) ∧
    (beginA c s k p)[36]? = some (.bool false) ∧ (beginA c s k p)[31]? = some (.int .u32 (if hasF s k 8 = true then 2147422208 else 2147422224)) := by
  unfold beginA midA preA
  by_cases hb : hasF s k 8 = true
  · rw [if_pos hb, if_pos hb]
    refine ⟨?_, ?_, ?_, ?_, ?_, ?_⟩ <;> simp [Array.getElem?_setIfInBounds, h]
  · rw [if_neg hb, if_neg hb]
    refine ⟨?_, ?_, ?_, ?_, ?_, ?_⟩ <;> simp [Array.getElem?_setIfInBounds, h]
theorem put_outside {cs : List CellD} (hc : CellsOk cs) {y place : Nat} {s : List UInt8} (hy : y + s.length ≤ 18446744073709551616) (hp : place < 18446744073709551616) (h : (s.length : Int) ≤ ((place : Int) - y) % 18446744073709551616) :
    peekL (putAll cs y s) place = peekL cs place := by
  obtain ⟨_, _, h3⟩ := putAll_facts s.length cs y s (Nat.le_refl _) hc hy
  rw [h3 place, dif_neg]
  rintro ⟨h1, h2⟩
  omega
set_option maxHeartbeats 8000000 in
set_option maxRecDepth 100000 in
theorem within_walk (c s : Array Value) (hc : Fits cpuK c.toList) (hs : Fits sigK s.toList) (n : Int) (x place : Nat) (hx : x < 4294967296) (hpl : place < 18446744073709551616) (base : Nat) (ms : List MapD) (cs : List CellD) (ps : List PageD) (hw : ∀ c ∈ cs, c.pos < 18446744073709551616) (hww : ∀ c ∈ cs, c.word < 18446744073709551616) (hn : ∀ p ∈ ps, p.num < 4294967296) (hb : base < 18446744073709551616)
    (m1 : Option Addr) (m2 : Nat) (c1 : Option Addr) (c2 : Nat) (p1 : Option Addr) (p2 : Nat) (w : World) (hm : MapsV w (.slice m1 ms.length m2) ms) (hcv : CellsV w (.slice c1 cs.length c2) cs) (hp : PagesV w (.slice p1 ps.length p2) ps) :
    Calls Try.prog 3 #[.agg c, .agg #[.slice m1 ms.length m2, .slice c1 cs.length c2, .int .u64 base, .slice p1 ps.length p2], .agg s, .int .i64 n, .int .u32 (x : Nat), .int .u64 (place : Nat)] w fun e w' => e = .returned (.bool true) ∧ Below w.heap.size w w' := by
  have HSZ : Hid ((Try.prog.info? 40).map (·.size) = some s.size) := Lib.hid (by rw [hs.arr_size]; kernel_rfl)
  have HCZ : Hid ((Try.prog.info? 25).map (·.size) = some c.size) := Lib.hid (by rw [hc.arr_size]; kernel_rfl)
  have HFEW : Hid (∀ W, Below w.heap.size w W → Calls Try.prog 4 #[.agg c, .agg #[.slice m1 ms.length m2, .slice c1 cs.length c2, .int .u64 base, .slice p1 ps.length p2], .agg s] W fun e w' => e = .returned (.bool (fewB c s base ms cs ps)) ∧ Below W.heap.size W w') :=
    Lib.hid (fun W hW => few_any c s hc hs base ms cs ps hw hn hb m1 m2 c1 c2 p1 p2 W (hm.below hW) (hcv.below hW) (hp.below hW))
  have HC := Lib.hid hc; have HS := Lib.hid hs; have HW := Lib.hid hw; have HWW := Lib.hid hww; have HX := Lib.hid hx; have HPL := Lib.hid hpl
  have HM := Lib.hid hm; have HCV := Lib.hid hcv; have HPV := Lib.hid hp
  clear hc hs hw hww hn hb hm hcv hp hx hpl
  go_enter Try.func3, Try.ntmps3
  go_upto_region 1 with fail
  obtain ⟨W, hW⟩ : ∃ W, W = ((w.alloc (.cells c 25)).alloc (.cells #[.slice m1 ms.length m2, .slice c1 cs.length c2, .int .u64 base, .slice p1 ps.length p2] 33)).alloc (.cells s 40) := ⟨_, rfl⟩
  have HZ : Hid (W.heap.size = w.heap.size + 3) := Lib.hid (by rw [hW]; simp only [heap_len])
  have A0 : Hid (∀ v, Below W.heap.size W v → v.heap[w.heap.size]? = some (.cells c 25)) := Lib.hid (fun v hv => by rw [hv.block _ (by rw [hW]; simp only [heap_len]; omega), hW]; (repeat (refine (heap_old _ _ _ (by simp only [heap_len]; omega)).trans ?_)); exact heap_new _ _ _ rfl)
  have A1 : Hid (∀ v, Below W.heap.size W v → v.heap[w.heap.size + 1]? = some (.cells #[.slice m1 ms.length m2, .slice c1 cs.length c2, .int .u64 base, .slice p1 ps.length p2] 33)) := Lib.hid (fun v hv => by rw [hv.block _ (by rw [hW]; simp only [heap_len]; omega), hW]; (repeat (refine (heap_old _ _ _ (by simp only [heap_len]; omega)).trans ?_)); exact heap_new _ _ _ (by simp only [heap_len]))
  have A2 : Hid (∀ v, Below W.heap.size W v → v.heap[w.heap.size + 1 + 1]? = some (.cells s 40)) := Lib.hid (fun v hv => by rw [hv.block _ (by rw [hW]; simp only [heap_len]; omega), hW]; exact heap_new _ _ _ (by simp only [heap_len]))
  have HB : Hid (Below w.heap.size w W) := Lib.hid (by rw [hW]; exact (((Below.refl _ _).alloc (Nat.le_refl _) _).alloc (by simp only [heap_len]; omega) _).alloc (by simp only [heap_len]; omega) _)
  have HB0 : Hid (Below W.heap.size W W) := Lib.hid (Below.refl _ _)
  rw [← hW]
  clear hW
  have l0 := cell_at (o := 0) (A1.out _ HB0.out) rfl
  have l1 := cell_at (o := 1) (A1.out _ HB0.out) rfl
  have l2 := cell_at (o := 2) (A1.out _ HB0.out) rfl
  have l3 := cell_at (o := 3) (A1.out _ HB0.out) rfl
  cases hfw : fewB c s base ms cs ps
  · rw [hfw] at HFEW
    clear hfw
    go_wp2_with (first
      | (refine wpl_load 25 ?_; refine LoadGoal.of c rfl (A0.out _ HB0.out) (by kernel_rfl) HCZ.out rfl ?_)
      | (refine wpl_load 40 ?_; refine LoadGoal.of s rfl (A2.out _ HB0.out) (by kernel_rfl) HSZ.out rfl ?_)
      | (go_at_call 4; refine (HFEW.out _ HB.out).mono ?_; rintro e w1 ⟨rfl, hb1⟩)
      | (go_at_call 5; refine (awake27 _).mono ?_; rintro e w2 ⟨rfl, hb2⟩))
    go_ret
    exact ⟨rfl, (HB.out.trans (hb1.mono HB.out.size)).trans (hb2.mono (Nat.le_trans HB.out.size hb1.size))⟩
  · rw [hfw] at HFEW
    have HFW := Lib.hid (few_of hfw)
    clear hfw
    by_cases n1 : n < 1
    · go_wp2_with (first
        | (refine wpl_load 25 ?_; refine LoadGoal.of c rfl (A0.out _ HB0.out) (by kernel_rfl) HCZ.out rfl ?_)
        | (refine wpl_load 40 ?_; refine LoadGoal.of s rfl (A2.out _ HB0.out) (by kernel_rfl) HSZ.out rfl ?_)
        | (go_at_call 4; refine (HFEW.out _ HB.out).mono ?_; rintro e w1 ⟨rfl, hb1⟩)
        | (go_at_call 5; refine (awake27 _).mono ?_; rintro e w2 ⟨rfl, hb2⟩))
      go_ret
      exact ⟨rfl, (HB.out.trans (hb1.mono HB.out.size)).trans (hb2.mono (Nat.le_trans HB.out.size hb1.size))⟩
    by_cases n2 : 64 < n
    · have n1' : (1 : Int) ≤ n := by omega
      clear n1
      go_wp2_with (first
        | (refine wpl_load 25 ?_; refine LoadGoal.of c rfl (A0.out _ HB0.out) (by kernel_rfl) HCZ.out rfl ?_)
        | (refine wpl_load 40 ?_; refine LoadGoal.of s rfl (A2.out _ HB0.out) (by kernel_rfl) HSZ.out rfl ?_)
        | (go_at_call 4; refine (HFEW.out _ HB.out).mono ?_; rintro e w1 ⟨rfl, hb1⟩)
        | (go_at_call 5; refine (awake27 _).mono ?_; rintro e w2 ⟨rfl, hb2⟩))
      go_ret
      exact ⟨rfl, (HB.out.trans (hb1.mono HB.out.size)).trans (hb2.mono (Nat.le_trans HB.out.size hb1.size))⟩
    obtain ⟨k, rfl⟩ : ∃ k : Nat, n = (k : Int) + 1 := ⟨(n - 1).toNat, by omega⟩
    have hk : k < 64 := by omega
    have n1' : (1 : Int) ≤ (k : Int) + 1 := by omega
    have n2' : (k : Int) + 1 ≤ 64 := by omega
    clear n1 n2
    obtain ⟨p, hp⟩ : ∃ p : Nat, placeF c s k = p := ⟨(placeF c s k).toNat, by have := place_law c s HC.out HS.out k _ rfl; omega⟩
    have HPLAW : Hid (p % 8 = 0 ∧ p < 4294967296) := Lib.hid (by have := place_law c s HC.out HS.out k _ rfl; omega)
    have HCOK : Hid (CellsOk cs) := Lib.hid ⟨HFW.out.fit.host.crise, fun q hq => (HFW.out.fit.host.cell q hq).1, fun q hq => (HFW.out.fit.host.cell q hq).2.1, HW.out, HWW.out⟩
    have HBEG : Hid (∀ W', Below w.heap.size w W' → Calls Try.prog 6 #[.agg c, .agg #[.slice m1 ms.length m2, .slice c1 cs.length c2, .int .u64 base, .slice p1 ps.length p2], .agg s, .int .i64 ((k : Int) + 1), .int .u32 (x : Nat)] W' (BeginPost c s k p (frameB c s k x) base cs ps m1 ms.length m2 c1 cs.length c2 p1 ps.length p2 W')) :=
      Lib.hid (fun W' hW' => begin_any c s HC.out HS.out k hk x p HX.out hp HPLAW.out.2 base ms cs ps HFW.out.fit HCOK.out (by have := HFW.out.c; omega) m1 m2 c1 cs.length c2 p1 p2 W' (HM.out.below hW') (HCV.out.below hW') (HPV.out.below hW'))
    have HGS : Hid (∀ (d1 : Option Addr) (d2 d3 : Nat), (Try.prog.info? 33).map (·.size) = some (#[.slice m1 ms.length m2, .slice d1 d2 d3, .int .u64 base, .slice p1 ps.length p2] : Array Value).size) := Lib.hid (fun _ _ _ => by show _ = some 4; kernel_rfl)
    have HG1 : Hid (∀ (d1 : Option Addr) (d2 d3 : Nat), (#[.slice m1 ms.length m2, .slice d1 d2 d3, .int .u64 base, .slice p1 ps.length p2] : Array Value).all (·.oneCell') = true) := Lib.hid (fun _ _ _ => by simp [Value.oneCell'])
    have HK := Lib.hid hk
    have hk63 : (k : Int) ≤ 63 := by omega
    clear hp hk
    go_upto_region 3 with (first
      | (refine wpl_load 25 ?_; refine LoadGoal.of c rfl (A0.out _ HB0.out) (by kernel_rfl) HCZ.out rfl ?_)
      | (refine wpl_load 40 ?_; refine LoadGoal.of s rfl (A2.out _ HB0.out) (by kernel_rfl) HSZ.out rfl ?_)
      | (go_at_call 4; refine (HFEW.out _ HB.out).mono ?_; rintro e w1 ⟨rfl, hb1⟩))
    have HB1 : Hid (Below W.heap.size W w1) := Lib.hid (hb1)
    have HBW : Hid (Below w.heap.size w w1) := Lib.hid (HB.out.trans (hb1.mono HB.out.size))
    clear hb1 l0 l1 l2 l3
    have l0 := cell_at (o := 0) (A1.out _ HB1.out) rfl
    have l1 := cell_at (o := 1) (A1.out _ HB1.out) rfl
    have l2 := cell_at (o := 2) (A1.out _ HB1.out) rfl
    have l3 := cell_at (o := 3) (A1.out _ HB1.out) rfl
    by_cases hbad : badB ps 2 p (frameB c s k x).length = true
    · have HBAD := Lib.hid hbad
      clear hbad
      go_upto_region 4 with (first
        | (refine wpl_load 25 ?_; refine LoadGoal.of c rfl (A0.out _ HB1.out) (by kernel_rfl) HCZ.out rfl ?_)
        | (refine wpl_load 40 ?_; refine LoadGoal.of s rfl (A2.out _ HB1.out) (by kernel_rfl) HSZ.out rfl ?_)
        | (go_at_call 6; refine (HBEG.out _ HBW.out).mono ?_; rintro e w2 hpost; obtain ⟨hb2, rfl⟩ : Below w1.heap.size w1 w2 ∧ e = .returned (.tuple #[.agg c, .agg #[.slice m1 ms.length m2, .slice c1 cs.length c2, .int .u64 base, .slice p1 ps.length p2], .int .i64 14]) := ⟨hpost.1, by rcases hpost.2 with h | h; exact h.2; exact absurd HBAD.out (by rw [h.1]; decide)⟩; clear hpost)
        | (refine wpl_store 25 ?_; refine StoreGoal.of c cpuZ rfl rfl ((heap_old _ _ _ (by simp only [heap_len]; omega)).trans (heap_new _ _ _ rfl)) HC.out cpuZ_fits cpu_size ?_)
        | (refine wpl_store 33 ?_; intro ee he; refine wpList_store_row he _ _ _ ee (w2.heap.size + 1) #[.slice m1 ms.length m2, .slice c1 cs.length c2, .int .u64 base, .slice p1 ps.length p2] rfl rfl 33 #[.slice none 0 0, .slice none 0 0, .int .u64 0, .slice none 0 0] ((row_ne _ _ _ _ (by omega)).trans (heap_new _ _ _ (by simp only [heap_len]))) (HGS.out _ _ _) rfl (HG1.out _ _ _) ?_))
      go_wp2_with (go_at_call 5; refine (awake27 _).mono ?_; rintro e w3 ⟨rfl, hb3⟩)
      go_ret
      refine ⟨rfl, below_chain ?_ (Nat.le_refl _) hb3⟩
      have hz : w.heap.size ≤ w2.heap.size := Nat.le_trans HBW.out.size hb2.size
      exact row_below (row_below (((HBW.out.trans (hb2.mono HBW.out.size)).alloc hz _).alloc (by simp only [heap_len]; omega) _) hz) (by omega)
    · have hbad' : badB ps 2 p (frameB c s k x).length = false := by simpa using hbad
      have HBAD := Lib.hid hbad'
      clear hbad hbad'
      have hb39 : c.size = 39 := by rw [HC.out.arr_size]; rfl
      obtain ⟨g4, g29, g34, g35, g36, g31⟩ := begin_cells (s := s) hb39 k p
      have HCB : Hid (FitC cpuK (beginA c s k p)) := Lib.hid (begin_fits ⟨HC.out⟩ HS.out HK.out HPLAW.out.2)
      obtain ⟨C', hC'⟩ : ∃ C', C' = beginA c s k p := ⟨_, rfl⟩
      rw [← hC'] at g4 g29 g34 g35 g36 g31 HCB
      have HCD := Lib.hid hC'
      clear hC' hb39
      have HBEG2 : Hid (∀ W', Below w.heap.size w W' → Calls Try.prog 6 #[.agg c, .agg #[.slice m1 ms.length m2, .slice c1 cs.length c2, .int .u64 base, .slice p1 ps.length p2], .agg s, .int .i64 ((k : Int) + 1), .int .u32 (x : Nat)] W' fun e w2 => Below W'.heap.size W' w2 ∧ ∃ d1 d2 d3, e = .returned (.tuple #[.agg C', .agg #[.slice m1 ms.length m2, .slice d1 d2 d3, .int .u64 base, .slice p1 ps.length p2], .int .i64 0]) ∧ CellsV w2 (.slice d1 d2 d3) (putAll cs (base + p) (frameB c s k x))) :=
        Lib.hid (fun W' hW' => (HBEG.out W' hW').mono fun e w2 h => ⟨h.1, by rw [HCD.out]; rcases h.2 with h | h; exact absurd h.1 (by rw [HBAD.out]; decide); exact h.2⟩)
      clear HBEG
      go_upto_region 4 with (first
        | (refine wpl_load 25 ?_; refine LoadGoal.of c rfl (A0.out _ HB1.out) (by kernel_rfl) HCZ.out rfl ?_)
        | (refine wpl_load 40 ?_; refine LoadGoal.of s rfl (A2.out _ HB1.out) (by kernel_rfl) HSZ.out rfl ?_)
        | (go_at_call 6; refine (HBEG2.out _ HBW.out).mono ?_; rintro e w2 ⟨hb2, d1, d2, d3, rfl, hcv2⟩; have HCV2 := Lib.hid hcv2; clear hcv2)
        | (refine wpl_store 25 ?_; refine StoreGoal.of C' cpuZ rfl rfl ((heap_old _ _ _ (by simp only [heap_len]; omega)).trans (heap_new _ _ _ rfl)) HCB.out.out cpuZ_fits cpu_size ?_)
        | (refine wpl_store 33 ?_; intro ee he; refine wpList_store_row he _ _ _ ee (w2.heap.size + 1) #[.slice m1 ms.length m2, .slice d1 d2 d3, .int .u64 base, .slice p1 ps.length p2] rfl rfl 33 #[.slice none 0 0, .slice none 0 0, .int .u64 0, .slice none 0 0] ((row_ne _ _ _ _ (by omega)).trans (heap_new _ _ _ (by simp only [heap_len]))) (HGS.out _ _ _) rfl (HG1.out _ _ _) ?_))
      have hz : w.heap.size ≤ w2.heap.size := Nat.le_trans HBW.out.size hb2.size
      have hz1 : W.heap.size ≤ w2.heap.size := Nat.le_trans HB1.out.size hb2.size
      obtain ⟨g, hg⟩ : ∃ g, g = w2.heap.size := ⟨_, rfl⟩
      rw [← hg]
      generalize hW3 : World.setRow (World.setRow _ g C') (g + 1) _ = W3
      have hx2 : Below w2.heap.size w2 W3 := by
        rw [← hW3, hg]
        exact row_below (row_below ((((Below.refl _ _).alloc (Nat.le_refl _) _).alloc (by simp only [heap_len]; omega) _)) (Nat.le_refl _)) (by omega)
      have D13 : Hid (W3.heap[g]? = some (.cells C' 25)) := Lib.hid (by
        rw [← hW3, hg]
        exact (row_ne _ _ _ _ (by omega)).trans (row_same ((heap_old _ _ _ (by simp only [heap_len]; omega)).trans (heap_new w2 (.cells cpuZ 25) _ rfl)))
        )
      have D14 : Hid (W3.heap[g + 1]? = some (.cells #[.slice m1 ms.length m2, .slice d1 d2 d3, .int .u64 base, .slice p1 ps.length p2] 33)) := Lib.hid (by
        rw [← hW3, hg]
        exact row_same ((row_ne _ _ _ _ (by omega)).trans (heap_new _ _ _ (by simp only [heap_len]))))
      have HB3 : Hid (Below W.heap.size W W3) := Lib.hid ((HB1.out.trans (hb2.mono HB1.out.size)).trans (hx2.mono hz1))
      have HCV3 : Hid (CellsV W3 (.slice d1 d2 d3) (putAll cs (base + p) (frameB c s k x))) := Lib.hid (HCV2.out.below hx2)
      clear hW3 hx2 HCV2 hb2
      subst hg
      have k29 := cell_at (o := 29) D13.out g29
      have l0 := cell_at (o := 0) (A1.out _ HB3.out) rfl
      have l1 := cell_at (o := 1) (A1.out _ HB3.out) rfl
      have l2 := cell_at (o := 2) (A1.out _ HB3.out) rfl
      have l3 := cell_at (o := 3) (A1.out _ HB3.out) rfl
      go_upto_region 8 with (go_at_call 7; refine (r4place_any base p HFW.out.fit.low HPLAW.out.2 _ _ _ _).mono ?_; rintro e w4 ⟨rfl, hb4⟩)
      have HB4 : Hid (Below W.heap.size W w4) := Lib.hid (HB3.out.trans (hb4.mono HB3.out.size))
      have HX4 : Hid (Below w.heap.size w w4) := Lib.hid (HB.out.trans (HB4.out.mono HB.out.size))
      have E13 : Hid (w4.heap[w2.heap.size]? = some (.cells C' 25)) := Lib.hid ((hb4.block _ (heap_lt D13.out)).trans D13.out)
      have E14 : Hid (w4.heap[w2.heap.size + 1]? = some (.cells #[.slice m1 ms.length m2, .slice d1 d2 d3, .int .u64 base, .slice p1 ps.length p2] 33)) := Lib.hid ((hb4.block _ (heap_lt D14.out)).trans D14.out)
      have HCV4 : Hid (CellsV w4 (.slice d1 d2 d3) (putAll cs (base + p) (frameB c s k x))) := Lib.hid (HCV3.out.below hb4)
      clear hb4 k29 l0 l1 l2 l3
      have hlow : base ≤ 4611686018427387904 := HFW.out.fit.low
      obtain ⟨q, hq⟩ : ∃ q : Nat, ((place : Int) - ((base : Int) + p)) % 18446744073709551616 = q := ⟨(((place : Int) - ((base : Int) + p)) % 18446744073709551616).toNat, by omega⟩
      have s2 := cell_at (A2.out _ HB4.out) (HS.out.iat (sigK_fl k HK.out)).1
      have hpeek : Hid ((frameB c s k x).length ≤ q → peekL (putAll cs (base + p) (frameB c s k x)) place = peekL cs place) := Lib.hid (fun hle => by
        refine put_outside HCOK.out ?_ HPL.out ?_
        · have := frameB_length c s k x
          have : (frameB c s k x).length ≤ 784 := by rw [this]; split <;> omega
          have := HPLAW.out.2
          omega
        · rw [show (((base + p : Nat) : Int)) = (base : Int) + p by omega, hq]
          omega)
      have HP1 : Hid ((frameB c s k x).length ≤ q → ∀ sg : Grown w4, Calls Try.prog 8 #[.agg #[.slice m1 ms.length m2, .slice d1 d2 d3], .int .u64 (place : Nat)] sg.w fun e w' => e = .returned (.int .u8 (peekL cs place : Nat)) ∧ Below sg.w.heap.size sg.w w') := Lib.hid (fun hle sg => by
        have hcl := HFW.out.c
        have hfl : (frameB c s k x).length ≤ 784 := by rw [frameB_length]; split <;> omega
        have hpp := HPLAW.out.2
        obtain ⟨h1, h2, _⟩ := putAll_facts (frameB c s k x).length cs (base + p) (frameB c s k x) (Nat.le_refl _) HCOK.out (by omega)
        rw [← hpeek.out hle]
        exact rpeek3_any _ (by omega) h1.word place HPL.out _ _ sg.w (HCV4.out.below sg.below))
      have HP2 : Hid (∀ sg : Grown w4, Calls Try.prog 8 #[.agg #[.slice m1 ms.length m2, .slice c1 cs.length c2], .int .u64 (place : Nat)] sg.w fun e w' => e = .returned (.int .u8 (peekL cs place : Nat)) ∧ Below sg.w.heap.size sg.w w') := Lib.hid (fun sg => by
        have hcl := HFW.out.c
        exact rpeek3_any cs (by omega) HWW.out place HPL.out _ _ sg.w (HCV.out.below (HX4.out.trans (sg.below.mono HX4.out.size))))
      clear hpeek
      have hwq : IntKind.u64.wrap ((place : Int) - ((base : Int) + p)) = (q : Int) := by
        rw [← hq]
        simp [IntKind.wrap, IntKind.bits, IntKind.signed]
      have hp8 : (p : Int) % 8 = 0 := by have := HPLAW.out.1; omega
      have m14 : ∀ sg : Grown w4, sg.w.cell? ⟨w2.heap.size + 1, 3, none⟩ = some (.slice p1 ps.length p2) := Grown.cell (o := 3) E14.out rfl
      have m1_ : ∀ sg : Grown w4, sg.w.cell? ⟨w.heap.size + 1, 3, none⟩ = some (.slice p1 ps.length p2) := Grown.cell (o := 3) (A1.out _ HB4.out) rfl
      have r14 : Hid (∀ sg : Grown w4, sg.w.rangeAt (w2.heap.size + 1) 0 (#[.slice m1 ms.length m2, .slice d1 d2 d3] : Array Value).toList) := Lib.hid (fun sg j v hj => by
        match j, hj with
        | 0, hj => cases hj; exact Grown.cell (o := 0) E14.out rfl sg
        | 1, hj => cases hj; exact Grown.cell (o := 1) E14.out rfl sg
        | j + 2, hj => cases hj)
      have r1 : Hid (∀ sg : Grown w4, sg.w.rangeAt (w.heap.size + 1) 0 (#[.slice m1 ms.length m2, .slice c1 cs.length c2] : Array Value).toList) := Lib.hid (fun sg j v hj => by
        match j, hj with
        | 0, hj => cases hj; exact Grown.cell (o := 0) (A1.out _ HB4.out) rfl sg
        | 1, hj => cases hj; exact Grown.cell (o := 1) (A1.out _ HB4.out) rfl sg
        | j + 2, hj => cases hj)
      clear hq l0 l1 l2 l3
      cases hF : hasF s k 8
      · have hfl : (bits BinOp.and .u32 (iat s (2 + k * 3)) 8 != 0) = false := hF
        have HLEN : Hid ((frameB c s k x).length = 632) := Lib.hid (by rw [frameB_length, hF]; rfl)
        have h31 : C'[31]? = some (.int .u32 2147422224) := by rw [g31, hF]; rfl
        clear g31
        go_upto_region 11 with fail
        simp only [hwq]
        by_cases hle : 632 ≤ q
        · have hge : (632 : Int) ≤ (q : Int) := by omega
          have HP := Lib.hid (HP1.out (by rw [HLEN.out]; exact hle))
          clear hle HP1 hwq hfl hF s2
          refine wp_region_grown (by kernel_rfl) (by kernel_rfl) ?_
          iterate 28 (first | go_big_quiet_step ((go_at_call 8; with_reducible first | exact Calls.grown (HP.out _) | exact Calls.grown (HP2.out _))) | (go_big_quiet_want; refine quiet_load_mid 29 _ (#[.slice m1 ms.length m2, .slice d1 d2 d3]) rfl rfl (r14.out) Try.underlying29 rfl (by kernel_rfl) ?_; go_big_quiet_on; (try simp only [Act.put, List.getElem_toArray, List.getElem_cons_succ, List.getElem_cons_zero, List.setIfInBounds_toArray, List.set_cons_zero, List.set_cons_succ])) | (go_big_quiet_want; refine quiet_load_mid 29 _ (#[.slice m1 ms.length m2, .slice c1 cs.length c2]) rfl rfl (r1.out) Try.underlying29 rfl (by kernel_rfl) ?_; go_big_quiet_on; (try simp only [Act.put, List.getElem_toArray, List.getElem_cons_succ, List.getElem_cons_zero, List.setIfInBounds_toArray, List.set_cons_zero, List.set_cons_succ])))
          refine wpQuiet_nil ?_
          intro _ hw'
          obtain ⟨sG, hw''⟩ := hw'
          subst hw''
          have HBG : Hid (Below W.heap.size W sG.w) := Lib.hid (HB4.out.trans (sG.below.mono HB4.out.size))
          have HXG : Hid (Below w.heap.size w sG.w) := Lib.hid (HX4.out.trans (sG.below.mono HX4.out.size))
          have F13 : Hid (sG.w.heap[w2.heap.size]? = some (.cells C' 25)) := Lib.hid (Grown.row E13.out sG)
          obtain ⟨W5, hW5⟩ : ∃ W5, W5 = sG.w := ⟨_, rfl⟩
          rw [← hW5] at HBG HXG F13 ⊢
          clear hW5 m14 m1_ r14 r1 HP2 HP hge
          have q4 : ∀ sg : Grown W5, sg.w.cell? ⟨w2.heap.size, 4, none⟩ = _ := Grown.cell (o := 4) F13.out g4
          obtain ⟨hv, hhv⟩ : ∃ hv, hv = iat s (2 + k * 3 + 1) := ⟨_, rfl⟩
          have q34 : ∀ sg : Grown W5, sg.w.cell? ⟨w2.heap.size, 34, none⟩ = some (.int .u32 hv) := fun sg => by rw [hhv]; exact Grown.cell (o := 34) F13.out g34 sg
          have q35 : ∀ sg : Grown W5, sg.w.cell? ⟨w2.heap.size, 35, none⟩ = some (.int .u32 ((hv + 4) % 4294967296)) := fun sg => by rw [hhv]; exact Grown.cell (o := 35) F13.out g35 sg
          have q36 : ∀ sg : Grown W5, sg.w.cell? ⟨w2.heap.size, 36, none⟩ = _ := Grown.cell (o := 36) F13.out g36
          have q31 : ∀ sg : Grown W5, sg.w.cell? ⟨w2.heap.size, 31, none⟩ = _ := Grown.cell (o := 31) F13.out h31
          have qh : ∀ sg : Grown W5, sg.w.cell? ⟨w.heap.size + 1 + 1, 2 + k * 3 + 1, none⟩ = some (.int .u32 hv) := fun sg => by rw [hhv]; exact Grown.cell (o := 2 + k * 3 + 1) (A2.out _ HBG.out) (HS.out.iat (sigK_hd k HK.out)).1 sg
          have hkm : ((k : Int) + 1) % 4294967296 = (k : Int) + 1 := by omega
          have hkw : IntKind.u32.wrap ((k : Int) + 1) = (k : Int) + 1 := by simp [IntKind.wrap, IntKind.bits, IntKind.signed]; omega
          have hvw : IntKind.u32.wrap (hv + 4) = (hv + 4) % 4294967296 := by simp [IntKind.wrap, IntKind.bits, IntKind.signed]
          clear hhv
          go_upto_region 13 with fail
          (refine wp_region_grown_tail 40 (by kernel_rfl) (by kernel_rfl) ?_; simp only [List.take_succ_cons, List.take_zero, List.drop_succ_cons, List.drop_zero]; (repeat (go_big_quiet_step ((go_at_call 5; exact Calls.grown (awake27 _))))); refine wpQuiet_nil ?_; intro _ hw'; obtain ⟨sG, hw''⟩ := hw'; subst hw'')
          go_wp2
          go_ret
          exact ⟨rfl, HXG.out.trans (sG.below.mono HXG.out.size)⟩
        · have hge : (q : Int) < 632 := by omega
          have hge1 : decide ((632 : Int) ≤ (q : Int)) = false := decide_eq_false (by omega)
          have hge2 : decide (632 ≤ q) = false := decide_eq_false hle
          clear hle HP1 hwq hfl hF s2
          refine wp_region_grown (by kernel_rfl) (by kernel_rfl) ?_
          iterate 28 (first | go_big_quiet_step ((go_at_call 8; with_reducible exact Calls.grown (HP2.out _))) | (go_big_quiet_want; refine quiet_load_mid 29 _ (#[.slice m1 ms.length m2, .slice d1 d2 d3]) rfl rfl (r14.out) Try.underlying29 rfl (by kernel_rfl) ?_; go_big_quiet_on; (try simp only [Act.put, List.getElem_toArray, List.getElem_cons_succ, List.getElem_cons_zero, List.setIfInBounds_toArray, List.set_cons_zero, List.set_cons_succ])) | (go_big_quiet_want; refine quiet_load_mid 29 _ (#[.slice m1 ms.length m2, .slice c1 cs.length c2]) rfl rfl (r1.out) Try.underlying29 rfl (by kernel_rfl) ?_; go_big_quiet_on; (try simp only [Act.put, List.getElem_toArray, List.getElem_cons_succ, List.getElem_cons_zero, List.setIfInBounds_toArray, List.set_cons_zero, List.set_cons_succ])))
          refine wpQuiet_nil ?_
          intro _ hw'
          obtain ⟨sG, hw''⟩ := hw'
          subst hw''
          have HBG : Hid (Below W.heap.size W sG.w) := Lib.hid (HB4.out.trans (sG.below.mono HB4.out.size))
          have HXG : Hid (Below w.heap.size w sG.w) := Lib.hid (HX4.out.trans (sG.below.mono HX4.out.size))
          have F13 : Hid (sG.w.heap[w2.heap.size]? = some (.cells C' 25)) := Lib.hid (Grown.row E13.out sG)
          obtain ⟨W5, hW5⟩ : ∃ W5, W5 = sG.w := ⟨_, rfl⟩
          rw [← hW5] at HBG HXG F13 ⊢
          clear hW5 m14 m1_ r14 r1 HP2 hge
          have q4 : ∀ sg : Grown W5, sg.w.cell? ⟨w2.heap.size, 4, none⟩ = _ := Grown.cell (o := 4) F13.out g4
          obtain ⟨hv, hhv⟩ : ∃ hv, hv = iat s (2 + k * 3 + 1) := ⟨_, rfl⟩
          have q34 : ∀ sg : Grown W5, sg.w.cell? ⟨w2.heap.size, 34, none⟩ = some (.int .u32 hv) := fun sg => by rw [hhv]; exact Grown.cell (o := 34) F13.out g34 sg
          have q35 : ∀ sg : Grown W5, sg.w.cell? ⟨w2.heap.size, 35, none⟩ = some (.int .u32 ((hv + 4) % 4294967296)) := fun sg => by rw [hhv]; exact Grown.cell (o := 35) F13.out g35 sg
          have q36 : ∀ sg : Grown W5, sg.w.cell? ⟨w2.heap.size, 36, none⟩ = _ := Grown.cell (o := 36) F13.out g36
          have q31 : ∀ sg : Grown W5, sg.w.cell? ⟨w2.heap.size, 31, none⟩ = _ := Grown.cell (o := 31) F13.out h31
          have qh : ∀ sg : Grown W5, sg.w.cell? ⟨w.heap.size + 1 + 1, 2 + k * 3 + 1, none⟩ = some (.int .u32 hv) := fun sg => by rw [hhv]; exact Grown.cell (o := 2 + k * 3 + 1) (A2.out _ HBG.out) (HS.out.iat (sigK_hd k HK.out)).1 sg
          have hkm : ((k : Int) + 1) % 4294967296 = (k : Int) + 1 := by omega
          have hkw : IntKind.u32.wrap ((k : Int) + 1) = (k : Int) + 1 := by simp [IntKind.wrap, IntKind.bits, IntKind.signed]; omega
          have hvw : IntKind.u32.wrap (hv + 4) = (hv + 4) % 4294967296 := by simp [IntKind.wrap, IntKind.bits, IntKind.signed]
          clear hhv
          go_upto_region 13 with fail
          (refine wp_region_grown_tail 40 (by kernel_rfl) (by kernel_rfl) ?_; simp only [List.take_succ_cons, List.take_zero, List.drop_succ_cons, List.drop_zero]; (repeat (go_big_quiet_step ((go_at_call 5; exact Calls.grown (awake27 _))))); refine wpQuiet_nil ?_; intro _ hw'; obtain ⟨sG, hw''⟩ := hw'; subst hw'')
          go_wp2
          go_ret
          exact ⟨rfl, HXG.out.trans (sG.below.mono HXG.out.size)⟩
      · have hfl : (bits BinOp.and .u32 (iat s (2 + k * 3)) 8 != 0) = true := hF
        have HLEN : Hid ((frameB c s k x).length = 784) := Lib.hid (by rw [frameB_length, hF]; rfl)
        have h31 : C'[31]? = some (.int .u32 2147422208) := by rw [g31, hF]; rfl
        clear g31
        go_upto_region 11 with fail
        simp only [hwq]
        by_cases hle : 784 ≤ q
        · have hge : (784 : Int) ≤ (q : Int) := by omega
          have HP := Lib.hid (HP1.out (by rw [HLEN.out]; exact hle))
          clear hle HP1 hwq hfl hF s2
          refine wp_region_grown (by kernel_rfl) (by kernel_rfl) ?_
          iterate 28 (first | go_big_quiet_step ((go_at_call 8; with_reducible first | exact Calls.grown (HP.out _) | exact Calls.grown (HP2.out _))) | (go_big_quiet_want; refine quiet_load_mid 29 _ (#[.slice m1 ms.length m2, .slice d1 d2 d3]) rfl rfl (r14.out) Try.underlying29 rfl (by kernel_rfl) ?_; go_big_quiet_on; (try simp only [Act.put, List.getElem_toArray, List.getElem_cons_succ, List.getElem_cons_zero, List.setIfInBounds_toArray, List.set_cons_zero, List.set_cons_succ])) | (go_big_quiet_want; refine quiet_load_mid 29 _ (#[.slice m1 ms.length m2, .slice c1 cs.length c2]) rfl rfl (r1.out) Try.underlying29 rfl (by kernel_rfl) ?_; go_big_quiet_on; (try simp only [Act.put, List.getElem_toArray, List.getElem_cons_succ, List.getElem_cons_zero, List.setIfInBounds_toArray, List.set_cons_zero, List.set_cons_succ])))
          refine wpQuiet_nil ?_
          intro _ hw'
          obtain ⟨sG, hw''⟩ := hw'
          subst hw''
          have HBG : Hid (Below W.heap.size W sG.w) := Lib.hid (HB4.out.trans (sG.below.mono HB4.out.size))
          have HXG : Hid (Below w.heap.size w sG.w) := Lib.hid (HX4.out.trans (sG.below.mono HX4.out.size))
          have F13 : Hid (sG.w.heap[w2.heap.size]? = some (.cells C' 25)) := Lib.hid (Grown.row E13.out sG)
          obtain ⟨W5, hW5⟩ : ∃ W5, W5 = sG.w := ⟨_, rfl⟩
          rw [← hW5] at HBG HXG F13 ⊢
          clear hW5 m14 m1_ r14 r1 HP2 HP hge
          have q4 : ∀ sg : Grown W5, sg.w.cell? ⟨w2.heap.size, 4, none⟩ = _ := Grown.cell (o := 4) F13.out g4
          obtain ⟨hv, hhv⟩ : ∃ hv, hv = iat s (2 + k * 3 + 1) := ⟨_, rfl⟩
          have q34 : ∀ sg : Grown W5, sg.w.cell? ⟨w2.heap.size, 34, none⟩ = some (.int .u32 hv) := fun sg => by rw [hhv]; exact Grown.cell (o := 34) F13.out g34 sg
          have q35 : ∀ sg : Grown W5, sg.w.cell? ⟨w2.heap.size, 35, none⟩ = some (.int .u32 ((hv + 4) % 4294967296)) := fun sg => by rw [hhv]; exact Grown.cell (o := 35) F13.out g35 sg
          have q36 : ∀ sg : Grown W5, sg.w.cell? ⟨w2.heap.size, 36, none⟩ = _ := Grown.cell (o := 36) F13.out g36
          have q31 : ∀ sg : Grown W5, sg.w.cell? ⟨w2.heap.size, 31, none⟩ = _ := Grown.cell (o := 31) F13.out h31
          have qh : ∀ sg : Grown W5, sg.w.cell? ⟨w.heap.size + 1 + 1, 2 + k * 3 + 1, none⟩ = some (.int .u32 hv) := fun sg => by rw [hhv]; exact Grown.cell (o := 2 + k * 3 + 1) (A2.out _ HBG.out) (HS.out.iat (sigK_hd k HK.out)).1 sg
          have hkm : ((k : Int) + 1) % 4294967296 = (k : Int) + 1 := by omega
          have hkw : IntKind.u32.wrap ((k : Int) + 1) = (k : Int) + 1 := by simp [IntKind.wrap, IntKind.bits, IntKind.signed]; omega
          have hvw : IntKind.u32.wrap (hv + 4) = (hv + 4) % 4294967296 := by simp [IntKind.wrap, IntKind.bits, IntKind.signed]
          clear hhv
          go_upto_region 13 with fail
          (refine wp_region_grown_tail 40 (by kernel_rfl) (by kernel_rfl) ?_; simp only [List.take_succ_cons, List.take_zero, List.drop_succ_cons, List.drop_zero]; (repeat (go_big_quiet_step ((go_at_call 5; exact Calls.grown (awake27 _))))); refine wpQuiet_nil ?_; intro _ hw'; obtain ⟨sG, hw''⟩ := hw'; subst hw'')
          go_wp2
          go_ret
          exact ⟨rfl, HXG.out.trans (sG.below.mono HXG.out.size)⟩
        · have hge : (q : Int) < 784 := by omega
          have hge1 : decide ((784 : Int) ≤ (q : Int)) = false := decide_eq_false (by omega)
          have hge2 : decide (784 ≤ q) = false := decide_eq_false hle
          clear hle HP1 hwq hfl hF s2
          refine wp_region_grown (by kernel_rfl) (by kernel_rfl) ?_
          iterate 28 (first | go_big_quiet_step ((go_at_call 8; with_reducible exact Calls.grown (HP2.out _))) | (go_big_quiet_want; refine quiet_load_mid 29 _ (#[.slice m1 ms.length m2, .slice d1 d2 d3]) rfl rfl (r14.out) Try.underlying29 rfl (by kernel_rfl) ?_; go_big_quiet_on; (try simp only [Act.put, List.getElem_toArray, List.getElem_cons_succ, List.getElem_cons_zero, List.setIfInBounds_toArray, List.set_cons_zero, List.set_cons_succ])) | (go_big_quiet_want; refine quiet_load_mid 29 _ (#[.slice m1 ms.length m2, .slice c1 cs.length c2]) rfl rfl (r1.out) Try.underlying29 rfl (by kernel_rfl) ?_; go_big_quiet_on; (try simp only [Act.put, List.getElem_toArray, List.getElem_cons_succ, List.getElem_cons_zero, List.setIfInBounds_toArray, List.set_cons_zero, List.set_cons_succ])))
          refine wpQuiet_nil ?_
          intro _ hw'
          obtain ⟨sG, hw''⟩ := hw'
          subst hw''
          have HBG : Hid (Below W.heap.size W sG.w) := Lib.hid (HB4.out.trans (sG.below.mono HB4.out.size))
          have HXG : Hid (Below w.heap.size w sG.w) := Lib.hid (HX4.out.trans (sG.below.mono HX4.out.size))
          have F13 : Hid (sG.w.heap[w2.heap.size]? = some (.cells C' 25)) := Lib.hid (Grown.row E13.out sG)
          obtain ⟨W5, hW5⟩ : ∃ W5, W5 = sG.w := ⟨_, rfl⟩
          rw [← hW5] at HBG HXG F13 ⊢
          clear hW5 m14 m1_ r14 r1 HP2 hge
          have q4 : ∀ sg : Grown W5, sg.w.cell? ⟨w2.heap.size, 4, none⟩ = _ := Grown.cell (o := 4) F13.out g4
          obtain ⟨hv, hhv⟩ : ∃ hv, hv = iat s (2 + k * 3 + 1) := ⟨_, rfl⟩
          have q34 : ∀ sg : Grown W5, sg.w.cell? ⟨w2.heap.size, 34, none⟩ = some (.int .u32 hv) := fun sg => by rw [hhv]; exact Grown.cell (o := 34) F13.out g34 sg
          have q35 : ∀ sg : Grown W5, sg.w.cell? ⟨w2.heap.size, 35, none⟩ = some (.int .u32 ((hv + 4) % 4294967296)) := fun sg => by rw [hhv]; exact Grown.cell (o := 35) F13.out g35 sg
          have q36 : ∀ sg : Grown W5, sg.w.cell? ⟨w2.heap.size, 36, none⟩ = _ := Grown.cell (o := 36) F13.out g36
          have q31 : ∀ sg : Grown W5, sg.w.cell? ⟨w2.heap.size, 31, none⟩ = _ := Grown.cell (o := 31) F13.out h31
          have qh : ∀ sg : Grown W5, sg.w.cell? ⟨w.heap.size + 1 + 1, 2 + k * 3 + 1, none⟩ = some (.int .u32 hv) := fun sg => by rw [hhv]; exact Grown.cell (o := 2 + k * 3 + 1) (A2.out _ HBG.out) (HS.out.iat (sigK_hd k HK.out)).1 sg
          have hkm : ((k : Int) + 1) % 4294967296 = (k : Int) + 1 := by omega
          have hkw : IntKind.u32.wrap ((k : Int) + 1) = (k : Int) + 1 := by simp [IntKind.wrap, IntKind.bits, IntKind.signed]; omega
          have hvw : IntKind.u32.wrap (hv + 4) = (hv + 4) % 4294967296 := by simp [IntKind.wrap, IntKind.bits, IntKind.signed]
          clear hhv
          go_upto_region 13 with fail
          (refine wp_region_grown_tail 40 (by kernel_rfl) (by kernel_rfl) ?_; simp only [List.take_succ_cons, List.take_zero, List.drop_succ_cons, List.drop_zero]; (repeat (go_big_quiet_step ((go_at_call 5; exact Calls.grown (awake27 _))))); refine wpQuiet_nil ?_; intro _ hw'; obtain ⟨sG, hw''⟩ := hw'; subst hw'')
          go_wp2
          go_ret
          exact ⟨rfl, HXG.out.trans (sG.below.mono HXG.out.size)⟩
end Go.Proofs.Ytbaelhaajplbnaa
