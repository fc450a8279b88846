/-
  Which memories of the host can be, by the document: the walk.
-/
import Derived.Test.YtbaelhaajplbnaaFHoB
namespace Go.Proofs.Ytbaelhaajplbnaa
open Go Go.RowKit
set_option linter.unusedVariables false
set_option linter.unusedSimpArgs false

set_option maxHeartbeats 4000000 in
set_option maxRecDepth 100000 in
theorem rfit3_any (ms : List MapD) (cs : List CellD) (hlm : ms.length ≤ 1000000) (hlc : cs.length ≤ 1000000) (hw : ∀ c ∈ cs, c.pos < 18446744073709551616) (vm vc : Value) (w : World) (hm : MapsV w vm ms) (hc : CellsV w vc cs) :
    Calls Try.prog 23 #[.agg #[vm, vc]] w fun e w' => e = .returned (.bool (fitH ms cs)) ∧ Below w.heap.size w w' := by
  obtain ⟨pm, cm, rfl, hm⟩ := hm
  obtain ⟨pc, cc, rfl, hc⟩ := hc
  have HM := Lib.hid hm; have HC := Lib.hid hc; have HPOS := Lib.hid hw
  clear hm hc hw
  by_cases n1 : ms.length ≤ 64
  · by_cases n2 : cs.length ≤ 131072
    · have m1 : (ms.length : Int) ≤ 64 := by omega
      have m2 : (cs.length : Int) ≤ 131072 := by omega
      have N := Lib.hid (And.intro n1 n2)
      clear n1 n2 hlm hlc
      obtain ⟨W0, hW⟩ : ∃ W0, W0 = w.alloc (.cells #[.slice pm ms.length cm, .slice pc cs.length cc] 29) := ⟨_, rfl⟩
      have HROW : Hid (W0.heap[w.heap.size]? = some (.cells #[.slice pm ms.length cm, .slice pc cs.length cc] 29)) := Lib.hid (by rw [hW]; exact heap_new _ _ _ rfl)
      have HB0 : Hid (Below w.heap.size w W0) := Lib.hid (by rw [hW]; exact (Below.refl _ _).alloc (Nat.le_refl _) _)
      have HLT : Hid (w.heap.size < W0.heap.size) := Lib.hid (by rw [hW, heap_len]; omega)
      go_enter Try.func23, Try.ntmps23
      go_upto_region 1 with fail
      rw [← hW]
      have l0 := cell_at (o := 0) HROW.out rfl
      have l1 := cell_at (o := 1) HROW.out rfl
      clear hW
      go_wp2
      clear l0 l1
      go_loopw [3] (fun i wr => ∃ k : Nat, k ≤ ms.length ∧ i = .int .i64 k ∧ Hid (Below W0.heap.size W0 wr) ∧ Hid (∀ j (h : j < ms.length), j < k → okMap ms j h)) (fun i _ => ms.length - (intOf i).toNat)
      case atStart => exact ⟨0, Nat.zero_le _, rfl, Lib.hid (Below.refl _ _), Lib.hid (fun j _ h => absurd h (Nat.not_lt_zero _))⟩
      case round =>
        obtain ⟨k, hk, rfl, HB, HK⟩ := hrel
        have l0 := cell_at (o := 0) ((HB.out.block _ HLT.out).trans HROW.out) rfl
        by_cases hlt : k < ms.length
        · obtain ⟨b, off, rfl, hr⟩ := HM.out (ne_nil hlt)
          have HR := Lib.hid (hr.below HB0.out); clear hr
          have c0 := (HR.out.below HB.out).fst k hlt
          have c1 := (HR.out.below HB.out).snd k hlt
          have hsz := map_size
          go_upto_region 7 with fail
          have mq : ∀ q, (hq : q + 1 = k) → wr.cell? ⟨b, off + q * 2, none⟩ = some (.int .u64 ((ms[q]'(by omega)).page : Nat)) := fun q hq => (HR.out.below HB.out).fst q (by omega)
          have hz := HB.out.size
          have hlt0 := HLT.out
          have hbl := (HR.out.below HB.out).lt
          obtain ⟨W1, hW1⟩ : ∃ W1, W1 = wr.alloc (.cells #[.int .u64 (ms[k].page : Nat), .int .i64 ms[k].prot] 80) := ⟨_, rfl⟩
          have H1 : Hid (W1.heap[wr.heap.size]? = some (.cells #[.int .u64 (ms[k].page : Nat), .int .i64 ms[k].prot] 80)) := Lib.hid (by rw [hW1]; exact heap_new _ _ _ rfl)
          have HB1 : Hid (Below wr.heap.size wr W1) := Lib.hid (by rw [hW1]; exact (Below.refl _ _).alloc (Nat.le_refl _) _)
          have HBW : Hid (Below W0.heap.size W0 W1) := Lib.hid (HB.out.trans (HB1.out.mono HB.out.size))
          rw [← hW1]
          clear hW1
          have d0 : ∀ s : Grown W1, s.w.cell? ⟨w.heap.size, 0, none⟩ = some (.slice (some ⟨b, off, none⟩) ms.length cm) := fun s => (s.below.cell (p := ⟨w.heap.size, 0, none⟩) (Nat.lt_of_lt_of_le hlt0 (Nat.le_trans hz HB1.out.size))).trans ((HB1.out.cell (p := ⟨w.heap.size, 0, none⟩) (Nat.lt_of_lt_of_le hlt0 hz)).trans l0)
          have e0 : ∀ s : Grown W1, s.w.cell? ⟨wr.heap.size, 0, none⟩ = some (.int .u64 (ms[k].page : Nat)) := Grown.cell (o := 0) H1.out rfl
          have e1 : ∀ s : Grown W1, s.w.cell? ⟨wr.heap.size, 1, none⟩ = some (.int .i64 ms[k].prot) := Grown.cell (o := 1) H1.out rfl
          have dq : ∀ q, (hq : q + 1 = k) → ∀ s : Grown W1, s.w.cell? ⟨b, off + q * 2, none⟩ = some (.int .u64 ((ms[q]'(by omega)).page : Nat)) := fun q hq s => (s.below.cell (p := ⟨b, off + q * 2, none⟩) (Nat.lt_of_lt_of_le hbl HB1.out.size)).trans ((HB1.out.cell (p := ⟨b, off + q * 2, none⟩) hbl).trans (mq q hq))
          clear l0 c0 c1 mq hz hlt0 hbl
          have hge := hugeP_eq
          rcases map_cases ms k hlt with ⟨h1, h4⟩ | ⟨h1, h2, h4⟩ | ⟨h1, h2, h3, h4⟩ | ⟨h1, h2, h3, h0, h4⟩ | ⟨h1, h2, h3, ⟨q, hq, h5⟩, h4⟩ | ⟨h1, h2, h3, ⟨q, hq, h5⟩, h4⟩
          · have H4 := Lib.hid h4
            clear h4 dq
            (refine wp_region_grown (by kernel_rfl) (by kernel_rfl) ?_; (repeat (go_big_quiet_step (fail))); refine wpQuiet_nil ?_; intro _ hw'; obtain ⟨sG, hw''⟩ := hw'; subst hw'')
            go_wp2
            go_ret
            exact ⟨by rw [fitH_not (fun h => H4.out (h.okMap k hlt))]; rfl, HB0.out.trans ((HBW.out.trans (sG.below.mono HBW.out.size)).mono HB0.out.size)⟩
          · have H4 := Lib.hid h4
            clear h4 dq
            have b2 := decide_eq_true h2
            clear h2
            (refine wp_region_grown (by kernel_rfl) (by kernel_rfl) ?_; (repeat (go_big_quiet_step (fail))); refine wpQuiet_nil ?_; intro _ hw'; obtain ⟨sG, hw''⟩ := hw'; subst hw'')
            go_wp2
            go_ret
            exact ⟨by rw [fitH_not (fun h => H4.out (h.okMap k hlt))]; rfl, HB0.out.trans ((HBW.out.trans (sG.below.mono HBW.out.size)).mono HB0.out.size)⟩
          · have H4 := Lib.hid h4
            clear h4 dq
            have b2 : decide (ms[k].prot < 0) = false := decide_eq_false (by omega)
            have b3 := decide_eq_true h3
            clear h2 h3
            (refine wp_region_grown (by kernel_rfl) (by kernel_rfl) ?_; (repeat (go_big_quiet_step (fail))); refine wpQuiet_nil ?_; intro _ hw'; obtain ⟨sG, hw''⟩ := hw'; subst hw'')
            go_wp2
            go_ret
            exact ⟨by rw [fitH_not (fun h => H4.out (h.okMap k hlt))]; rfl, HB0.out.trans ((HBW.out.trans (sG.below.mono HBW.out.size)).mono HB0.out.size)⟩
          · have H4 := Lib.hid h4
            clear h4 dq
            have b2 : decide (ms[k].prot < 0) = false := decide_eq_false (by omega)
            have b3 : decide (7 < ms[k].prot) = false := decide_eq_false (by omega)
            clear h2 h3
            subst h0
            (refine wp_region_grown (by kernel_rfl) (by kernel_rfl) ?_; (repeat (go_big_quiet_step (fail))); refine wpQuiet_nil ?_; intro _ hw'; obtain ⟨sG, hw''⟩ := hw'; subst hw'')
            go_wp2
            go_roundw
            case rel => exact ⟨1, by omega, by go_num, Lib.hid (HBW.out.trans (sG.below.mono HBW.out.size)), Lib.hid (snoc_all hlt HK.out H4.out)⟩
            case measure => simp [intOf]; omega
          · have H4 := Lib.hid h4
            have d1 := dq q hq
            clear h4 dq
            have b2 : decide (ms[k].prot < 0) = false := decide_eq_false (by omega)
            have b3 : decide (7 < ms[k].prot) = false := decide_eq_false (by omega)
            have b5 : decide (ms[k].page ≤ ms[q].page) = true := decide_eq_true (by omega)
            have b6 : ms[k].page ≤ ms[q].page := by omega
            have b4 : decide ((0 : Int) < (q : Int) + 1) = true := decide_eq_true (by omega)
            clear h2 h3 h5
            subst hq
            (refine wp_region_grown (by kernel_rfl) (by kernel_rfl) ?_; (repeat (go_big_quiet_step (fail))); refine wpQuiet_nil ?_; intro _ hw'; obtain ⟨sG, hw''⟩ := hw'; subst hw'')
            go_wp2
            go_ret
            exact ⟨by rw [fitH_not (fun h => H4.out (h.okMap _ hlt))]; rfl, HB0.out.trans ((HBW.out.trans (sG.below.mono HBW.out.size)).mono HB0.out.size)⟩
          · have H4 := Lib.hid h4
            have d1 := dq q hq
            clear h4 dq
            have b2 : decide (ms[k].prot < 0) = false := decide_eq_false (by omega)
            have b3 : decide (7 < ms[k].prot) = false := decide_eq_false (by omega)
            have b5 : decide (ms[k].page ≤ ms[q].page) = false := decide_eq_false (by omega)
            have b6 : ¬ ms[k].page ≤ ms[q].page := by omega
            have b4 : decide ((0 : Int) < (q : Int) + 1) = true := decide_eq_true (by omega)
            clear h2 h3 h5
            subst hq
            (refine wp_region_grown (by kernel_rfl) (by kernel_rfl) ?_; (repeat (go_big_quiet_step (fail))); refine wpQuiet_nil ?_; intro _ hw'; obtain ⟨sG, hw''⟩ := hw'; subst hw'')
            go_wp2
            go_roundw
            case rel => exact ⟨q + 2, by omega, by go_num, Lib.hid (HBW.out.trans (sG.below.mono HBW.out.size)), Lib.hid (snoc_all hlt HK.out H4.out)⟩
            case measure => simp [intOf]; omega
        · obtain rfl : k = ms.length := by omega
          have l1 := cell_at (o := 1) ((HB.out.block _ HLT.out).trans HROW.out) rfl
          have HMO : Hid (∀ j (h : j < ms.length), j < ms.length → okMap ms j h) := HK
          have HBS := HB
          go_wp2
          clear l0 l1 HB HK hlt
          clear hk
          go_loopw [5] (fun i wr => ∃ k : Nat, k ≤ cs.length ∧ i = .int .i64 k ∧ Hid (Below W0.heap.size W0 wr) ∧ Hid (∀ j (h : j < cs.length), j < k → okCell ms cs j h)) (fun i _ => cs.length - (intOf i).toNat)
          case atStart => exact ⟨0, Nat.zero_le _, rfl, HBS, Lib.hid (fun j _ h => absurd h (Nat.not_lt_zero _))⟩
          case round =>
          obtain ⟨k, hk, rfl, HB, HK⟩ := hrel
          have l1 := cell_at (o := 1) ((HB.out.block _ HLT.out).trans HROW.out) rfl
          have l0 := cell_at (o := 0) ((HB.out.block _ HLT.out).trans HROW.out) rfl
          by_cases hlt : k < cs.length
          · obtain ⟨b, off, rfl, hr⟩ := HC.out (ne_nil hlt)
            have HR := Lib.hid (hr.below HB0.out); clear hr
            have c0 := (HR.out.below HB.out).fst k hlt
            have c1 := (HR.out.below HB.out).snd k hlt
            have hsz := cell_size
            go_upto_region 13 with fail
            have mq : ∀ q, (hq : q + 1 = k) → wr.cell? ⟨b, off + q * 2, none⟩ = some (.int .u64 ((cs[q]'(by omega)).pos : Nat)) := fun q hq => (HR.out.below HB.out).fst q (by omega)
            have hz := HB.out.size
            have hlt0 := HLT.out
            have hbl := (HR.out.below HB.out).lt
            obtain ⟨W1, hW1⟩ : ∃ W1, W1 = wr.alloc (.cells #[.int .u64 (cs[k].pos : Nat), .int .u64 (cs[k].word : Nat)] 85) := ⟨_, rfl⟩
            have H1 : Hid (W1.heap[wr.heap.size]? = some (.cells #[.int .u64 (cs[k].pos : Nat), .int .u64 (cs[k].word : Nat)] 85)) := Lib.hid (by rw [hW1]; exact heap_new _ _ _ rfl)
            have HB1 : Hid (Below wr.heap.size wr W1) := Lib.hid (by rw [hW1]; exact (Below.refl _ _).alloc (Nat.le_refl _) _)
            have HBW : Hid (Below W0.heap.size W0 W1) := Lib.hid (HB.out.trans (HB1.out.mono HB.out.size))
            rw [← hW1]
            clear hW1
            have d0 : ∀ s : Grown W1, s.w.cell? ⟨w.heap.size, 0, none⟩ = some (.slice pm ms.length cm) := fun s => (s.below.cell (p := ⟨w.heap.size, 0, none⟩) (Nat.lt_of_lt_of_le hlt0 (Nat.le_trans hz HB1.out.size))).trans ((HB1.out.cell (p := ⟨w.heap.size, 0, none⟩) (Nat.lt_of_lt_of_le hlt0 hz)).trans l0)
            have d1 : ∀ s : Grown W1, s.w.cell? ⟨w.heap.size, 1, none⟩ = some (.slice (some ⟨b, off, none⟩) cs.length cc) := fun s => (s.below.cell (p := ⟨w.heap.size, 1, none⟩) (Nat.lt_of_lt_of_le hlt0 (Nat.le_trans hz HB1.out.size))).trans ((HB1.out.cell (p := ⟨w.heap.size, 1, none⟩) (Nat.lt_of_lt_of_le hlt0 hz)).trans l1)
            have e0 : ∀ s : Grown W1, s.w.cell? ⟨wr.heap.size, 0, none⟩ = some (.int .u64 (cs[k].pos : Nat)) := Grown.cell (o := 0) H1.out rfl
            have e1 : ∀ s : Grown W1, s.w.cell? ⟨wr.heap.size, 1, none⟩ = some (.int .u64 (cs[k].word : Nat)) := Grown.cell (o := 1) H1.out rfl
            have dq : ∀ q, (hq : q + 1 = k) → ∀ s : Grown W1, s.w.cell? ⟨b, off + q * 2, none⟩ = some (.int .u64 ((cs[q]'(by omega)).pos : Nat)) := fun q hq s => (s.below.cell (p := ⟨b, off + q * 2, none⟩) (Nat.lt_of_lt_of_le hbl HB1.out.size)).trans ((HB1.out.cell (p := ⟨b, off + q * 2, none⟩) hbl).trans (mq q hq))
            clear l0 l1 c0 c1 mq hz hlt0 hbl
            obtain ⟨x, hx⟩ : ∃ x : Nat, x = cs[k].pos / 16384 := ⟨_, rfl⟩
            have hxi : (cs[k].pos : Int) / 16384 = (x : Int) := by omega
            have HPL : Hid (∀ s : Grown W1, Calls Try.prog 24 #[.agg #[.slice pm ms.length cm, .slice (some ⟨b, off, none⟩) cs.length cc], .int .u64 (x : Nat)] s.w fun e w' => e = .returned (.int .i64 (placeI ms x)) ∧ Below s.w.heap.size s.w w') := Lib.hid (fun s =>
              rplace3_any ms (by have := N.out.1; omega) x _ _ s.w (((show MapsV w (.slice pm ms.length cm) ms from ⟨_, _, rfl, HM.out⟩).below HB0.out).below ((HBW.out.trans (s.below.mono HBW.out.size)))))
            have hpn : Hid (decide (placeI ms x < 0) = !hasB MapD.page ms x) := Lib.hid placeI_neg
            have hxw : IntKind.u64.wrap (x : Int) = (x : Int) := IntWalk.u64_in _ (by have := HPOS.out _ (List.getElem_mem hlt); omega)
            have HXI := Lib.hid hx
            rcases cell_cases ms cs k hlt with ⟨h1, h4⟩ | ⟨h1, h2, h4⟩ | ⟨h1, h2, ⟨q, hq, h5⟩, h4⟩ | ⟨h1, h2, h0, h4⟩ | ⟨h1, h2, ⟨q, hq, h5⟩, h4⟩
            · have H4 := Lib.hid h4
              clear h4 dq hx hxi
              (refine wp_region_grown (by kernel_rfl) (by kernel_rfl) ?_; (repeat (go_big_quiet_step ((go_at_call 24; with_reducible exact Calls.grown (HPL.out _))))); refine wpQuiet_nil ?_; intro _ hw'; obtain ⟨sG, hw''⟩ := hw'; subst hw'')
              go_wp2
              go_ret
              exact ⟨by rw [fitH_not (fun h => H4.out (h.okCell _ hlt))]; rfl, HB0.out.trans ((HBW.out.trans (sG.below.mono HBW.out.size)).mono HB0.out.size)⟩
            · have H4 := Lib.hid h4
              clear h4 dq hx hxi
              (refine wp_region_grown (by kernel_rfl) (by kernel_rfl) ?_; (repeat (go_big_quiet_step ((go_at_call 24; with_reducible exact Calls.grown (HPL.out _))))); refine wpQuiet_nil ?_; intro _ hw'; obtain ⟨sG, hw''⟩ := hw'; subst hw'')
              go_wp2
              go_ret
              exact ⟨by rw [fitH_not (fun h => H4.out (h.okCell _ hlt))]; rfl, HB0.out.trans ((HBW.out.trans (sG.below.mono HBW.out.size)).mono HB0.out.size)⟩
            · have H4 := Lib.hid h4
              have d2 := dq q hq
              clear h4 dq hx hxi
              subst hq
              have b5 : decide (cs[q + 1].pos ≤ cs[q].pos) = true := decide_eq_true (by omega)
              have b4 : decide ((0 : Int) < (q : Int) + 1) = true := decide_eq_true (by omega)
              clear h5
              (refine wp_region_grown (by kernel_rfl) (by kernel_rfl) ?_; (repeat (go_big_quiet_step ((go_at_call 24; with_reducible exact Calls.grown (HPL.out _))))); refine wpQuiet_nil ?_; intro _ hw'; obtain ⟨sG, hw''⟩ := hw'; subst hw'')
              go_wp2
              go_ret
              exact ⟨by rw [fitH_not (fun h => H4.out (h.okCell _ hlt))]; rfl, HB0.out.trans ((HBW.out.trans (sG.below.mono HBW.out.size)).mono HB0.out.size)⟩
            · rw [← hx] at h4
              clear dq hx
              subst h0
              cases hh : hasB MapD.page ms x
              · have b7 : decide (placeI ms x < 0) = true := by rw [hpn.out, hh]; rfl
                have H4 : Hid (¬ okCell ms cs 0 hlt) := Lib.hid (fun h => by have := h4.1 h; rw [hh] at this; cases this)
                clear h4 hh
                (refine wp_region_grown (by kernel_rfl) (by kernel_rfl) ?_; (repeat (go_big_quiet_step ((go_at_call 24; with_reducible exact Calls.grown (HPL.out _))))); refine wpQuiet_nil ?_; intro _ hw'; obtain ⟨sG, hw''⟩ := hw'; subst hw'')
                go_wp2
                go_ret
                exact ⟨by rw [fitH_not (fun h => H4.out (h.okCell _ hlt))]; rfl, HB0.out.trans ((HBW.out.trans (sG.below.mono HBW.out.size)).mono HB0.out.size)⟩
              · have b7 : decide (placeI ms x < 0) = false := by rw [hpn.out, hh]; rfl
                have H4 : Hid (okCell ms cs 0 hlt) := Lib.hid (h4.2 hh)
                clear h4 hh
                (refine wp_region_grown (by kernel_rfl) (by kernel_rfl) ?_; (repeat (go_big_quiet_step ((go_at_call 24; with_reducible exact Calls.grown (HPL.out _))))); refine wpQuiet_nil ?_; intro _ hw'; obtain ⟨sG, hw''⟩ := hw'; subst hw'')
                go_wp2
                go_roundw
                case rel => exact ⟨1, by omega, by go_num, Lib.hid (HBW.out.trans (sG.below.mono HBW.out.size)), Lib.hid (snoc_all hlt HK.out H4.out)⟩
                case measure => simp [intOf]; omega
            · rw [← hx] at h4
              have d2 := dq q hq
              clear dq hx
              subst hq
              have b5 : decide (cs[q + 1].pos ≤ cs[q].pos) = false := decide_eq_false (by omega)
              have b4 : decide ((0 : Int) < (q : Int) + 1) = true := decide_eq_true (by omega)
              clear h5
              cases hh : hasB MapD.page ms x
              · have b7 : decide (placeI ms x < 0) = true := by rw [hpn.out, hh]; rfl
                have H4 : Hid (¬ okCell ms cs (q + 1) hlt) := Lib.hid (fun h => by have := h4.1 h; rw [hh] at this; cases this)
                clear h4 hh
                (refine wp_region_grown (by kernel_rfl) (by kernel_rfl) ?_; (repeat (go_big_quiet_step ((go_at_call 24; with_reducible exact Calls.grown (HPL.out _))))); refine wpQuiet_nil ?_; intro _ hw'; obtain ⟨sG, hw''⟩ := hw'; subst hw'')
                go_wp2
                go_ret
                exact ⟨by rw [fitH_not (fun h => H4.out (h.okCell _ hlt))]; rfl, HB0.out.trans ((HBW.out.trans (sG.below.mono HBW.out.size)).mono HB0.out.size)⟩
              · have b7 : decide (placeI ms x < 0) = false := by rw [hpn.out, hh]; rfl
                have H4 : Hid (okCell ms cs (q + 1) hlt) := Lib.hid (h4.2 hh)
                clear h4 hh
                (refine wp_region_grown (by kernel_rfl) (by kernel_rfl) ?_; (repeat (go_big_quiet_step ((go_at_call 24; with_reducible exact Calls.grown (HPL.out _))))); refine wpQuiet_nil ?_; intro _ hw'; obtain ⟨sG, hw''⟩ := hw'; subst hw'')
                go_wp2
                go_roundw
                case rel => exact ⟨q + 2, by omega, by go_num, Lib.hid (HBW.out.trans (sG.below.mono HBW.out.size)), Lib.hid (snoc_all hlt HK.out H4.out)⟩
                case measure => simp [intOf]; omega
          · obtain rfl : k = cs.length := by omega
            have hres : Hid (fitH ms cs = true) := Lib.hid (fitH_iff.2 (hostOk_of N.out.1 N.out.2 HMO.out HK.out))
            go_wp2
            go_ret
            exact ⟨by rw [hres.out]; rfl, HB0.out.trans (HB.out.mono HB0.out.size)⟩
    · have m1 : (ms.length : Int) ≤ 64 := by omega
      have m2 : (131072 : Int) < (cs.length : Int) := by omega
      have hres : Hid (fitH ms cs = false) := Lib.hid (fitH_not fun h => n2 h.nc)
      clear n1 n2 hlm hlc
      go_enter Try.func23, Try.ntmps23
      go_wp2
      go_ret
      exact ⟨by rw [hres.out]; rfl, (Below.refl _ _).alloc (Nat.le_refl _) _⟩
  · have m1 : (64 : Int) < (ms.length : Int) := by omega
    have hres : Hid (fitH ms cs = false) := Lib.hid (fitH_not fun h => n1 h.nm)
    clear n1 hlm hlc
    go_enter Try.func23, Try.ntmps23
    go_wp2
    go_ret
    exact ⟨by rw [hres.out]; rfl, (Below.refl _ _).alloc (Nat.le_refl _) _⟩
end Go.Proofs.Ytbaelhaajplbnaa
