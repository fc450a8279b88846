/-
  Which memories of the guest can be, by the document: the walk.
-/
import Derived.Test.YtbaelhaajplbnaaFHoE
import Derived.Test.YtbaelhaajplbnaaFHoC
namespace Go.Proofs.Ytbaelhaajplbnaa
open Go Go.RowKit
set_option linter.unusedVariables false
set_option linter.unusedSimpArgs false

set_option maxHeartbeats 8000000 in
set_option maxRecDepth 100000 in
theorem rfit4_any (base : Nat) (ms : List MapD) (cs : List CellD) (ps : List PageD) (hlm : ms.length ≤ 1000000) (hlc : cs.length ≤ 1000000) (hlp : ps.length ≤ 1000000) (hw : ∀ c ∈ cs, c.pos < 18446744073709551616) (hn : ∀ p ∈ ps, p.num < 4294967296) (hb : base < 18446744073709551616)
    (vm vc vp : Value) (w : World) (hm : MapsV w vm ms) (hc : CellsV w vc cs) (hp : PagesV w vp ps) :
    Calls Try.prog 9 #[.agg (guestV vm vc base vp)] w fun e w' => e = .returned (.bool (fitG base ms cs ps)) ∧ Below w.heap.size w w' := by
  have HMV := Lib.hid hm; have HCV := Lib.hid hc; have HPV := Lib.hid hp
  obtain ⟨pm, cm, rfl, hm⟩ := hm
  obtain ⟨pc, cc, rfl, hc⟩ := hc
  obtain ⟨pp, cp, rfl, hp⟩ := hp
  have HM := Lib.hid hm; have HC := Lib.hid hc; have HP := Lib.hid hp; have HPOS := Lib.hid hw; have HNUM := Lib.hid hn; have HBS := Lib.hid hb
  have HF3 : Hid (∀ W, Below w.heap.size w W → Calls Try.prog 23 #[.agg #[.slice pm ms.length cm, .slice pc cs.length cc]] W fun e w' => e = .returned (.bool (fitH ms cs)) ∧ Below W.heap.size W w') :=
    Lib.hid (fun W hW => rfit3_any ms cs hlm hlc hw _ _ W (HMV.out.below hW) (HCV.out.below hW))
  have HLEN := Lib.hid (And.intro hlm (And.intro hlc hlp))
  have m3 : (ps.length : Int) ≤ 1000000 := by omega
  have m2 : (cs.length : Int) ≤ 1000000 := by omega
  have m1 : (ms.length : Int) ≤ 1000000 := by omega
  clear hm hc hp hw hn hb hlm hlc hlp
  rw [guestV]
  obtain ⟨W0, hW⟩ : ∃ W0, W0 = w.alloc (.cells #[.slice pm ms.length cm, .slice pc cs.length cc, .int .u64 (base : Nat), .slice pp ps.length cp] 33) := ⟨_, rfl⟩
  have HROW : Hid (W0.heap[w.heap.size]? = some (.cells #[.slice pm ms.length cm, .slice pc cs.length cc, .int .u64 (base : Nat), .slice pp ps.length cp] 33)) := Lib.hid (by rw [hW]; exact heap_new _ _ _ rfl)
  have HB0 : Hid (Below w.heap.size w W0) := Lib.hid (by rw [hW]; exact (Below.refl _ _).alloc (Nat.le_refl _) _)
  have HLT : Hid (w.heap.size < W0.heap.size) := Lib.hid (by rw [hW, heap_len]; omega)
  have hbg := bigB_eq
  have HR0 : Hid (∀ W, Below W0.heap.size W0 W → W.heap[w.heap.size]? = some (.cells #[.slice pm ms.length cm, .slice pc cs.length cc, .int .u64 (base : Nat), .slice pp ps.length cp] 33)) := Lib.hid (fun W h => (h.block _ HLT.out).trans HROW.out)
  go_enter Try.func9, Try.ntmps9
  go_upto_region 1 with fail
  rw [← hW]
  clear hW
  have l0 := cell_at (o := 0) HROW.out rfl
  have l1 := cell_at (o := 1) HROW.out rfl
  have l2 := cell_at (o := 2) HROW.out rfl
  have l3 := cell_at (o := 3) HROW.out rfl
  cases hf : fitH ms cs
  · have hF := Lib.hid hf; clear hf
    have hres : Hid (fitG base ms cs ps = false) := Lib.hid (fitG_not fun h => by have := fitH_iff.2 h.host; rw [hF.out] at this; cases this)
    go_wp2_with (go_at_call 23; refine (HF3.out _ HB0.out).mono ?_; rintro e w1 ⟨rfl, hb1⟩; rw [hF.out]; have HB1 := Lib.hid hb1; clear hb1; have q2 := cell_at (o := 2) (HR0.out w1 HB1.out) rfl; have q3 := cell_at (o := 3) (HR0.out w1 HB1.out) rfl)
    go_ret
    exact ⟨by rw [hres.out]; rfl, HB0.out.trans (HB1.out.mono HB0.out.size)⟩
  · have hF := Lib.hid hf; clear hf
    by_cases c1 : base % 16384 = 0
    · have g1 : (((base : Int) % 16384 != 0) : Bool) = false := by simp only [bne_eq_false_iff_eq]; omega
      cases c2 : bigB base
      · have hlow : base ≤ 4611686018427387904 := by simp only [bigB, decide_eq_false_iff_not] at c2; omega
        by_cases c3 : ps.length ≤ 256
        · have HOK := Lib.hid (And.intro c1 (And.intro hlow c3))
          have g3 : (ps.length : Int) ≤ 256 := by omega
          clear c1 hlow c3
          have hhn := hugeN_eq
          go_wp2_with (go_at_call 23; refine (HF3.out _ HB0.out).mono ?_; rintro e w1 ⟨rfl, hb1⟩; rw [hF.out]; have HB1 := Lib.hid hb1; clear hb1; have q2 := cell_at (o := 2) (HR0.out w1 HB1.out) rfl; have q3 := cell_at (o := 3) (HR0.out w1 HB1.out) rfl)
          clear l0 l1 l2 l3 q2 q3
          go_loopw [3] (fun i wr => ∃ k : Nat, k ≤ ps.length ∧ i = .int .i64 k ∧ Hid (Below W0.heap.size W0 wr) ∧ Hid (∀ j (h : j < ps.length), j < k → okPage base ms ps j h)) (fun i _ => ps.length - (intOf i).toNat)
          case atStart => exact ⟨0, Nat.zero_le _, rfl, HB1, Lib.hid (fun j _ h => absurd h (Nat.not_lt_zero _))⟩
          case round =>
          obtain ⟨k, hk, rfl, HB, HK⟩ := hrel
          have l3 := cell_at (o := 3) (HR0.out wr HB.out) rfl
          by_cases hlt : k < ps.length
          · obtain ⟨b, off, rfl, hr⟩ := HP.out (ne_nil hlt)
            have HR := Lib.hid (hr.below HB0.out); clear hr
            have c0 := (HR.out.below HB.out).fst k hlt
            have c1 := (HR.out.below HB.out).snd k hlt
            have hsz := page_size
            go_upto_region 7 with fail
            obtain ⟨W1, hW1⟩ : ∃ W1, W1 = wr.alloc (.cells #[.int .u32 (ps[k].num : Nat), .int .i64 ps[k].prot] 77) := ⟨_, rfl⟩
            have H1 : Hid (W1.heap[wr.heap.size]? = some (.cells #[.int .u32 (ps[k].num : Nat), .int .i64 ps[k].prot] 77)) := Lib.hid (by rw [hW1]; exact heap_new _ _ _ rfl)
            have HB1 : Hid (Below wr.heap.size wr W1) := Lib.hid (by rw [hW1]; exact (Below.refl _ _).alloc (Nat.le_refl _) _)
            have HBW : Hid (Below W0.heap.size W0 W1) := Lib.hid (HB.out.trans (HB1.out.mono HB.out.size))
            rw [← hW1]
            clear hW1
            have d3 : ∀ s : Grown W1, s.w.cell? ⟨w.heap.size, 3, none⟩ = some (.slice (some ⟨b, off, none⟩) ps.length cp) := fun s => cell_at (o := 3) (HR0.out s.w (HBW.out.trans (s.below.mono HBW.out.size))) rfl
            have e0 : ∀ s : Grown W1, s.w.cell? ⟨wr.heap.size, 0, none⟩ = some (.int .u32 (ps[k].num : Nat)) := Grown.cell (o := 0) H1.out rfl
            have e1 : ∀ s : Grown W1, s.w.cell? ⟨wr.heap.size, 1, none⟩ = some (.int .i64 ps[k].prot) := Grown.cell (o := 1) H1.out rfl
            have dq : ∀ q, (hq : q + 1 = k) → ∀ s : Grown W1, s.w.cell? ⟨b, off + q * 2, none⟩ = some (.int .u32 ((ps[q]'(by omega)).num : Nat)) := fun q hq s => (HR.out.below (HBW.out.trans (s.below.mono HBW.out.size))).fst q (by omega)
            clear l3 c0 c1
            have HE0 := Lib.hid e0
            have HNK : Hid (ps[k].num < 4294967296) := Lib.hid (HNUM.out _ (List.getElem_mem hlt))
            rcases page_cases base ms ps k hlt with ⟨h1, h4⟩ | ⟨h1, h2, h4⟩ | ⟨h1, h2, h3, h4⟩ | ⟨h1, h2, h3, ⟨q, hq, h5⟩, h4⟩ | ⟨h1, h2, h3, h0, h4⟩ | ⟨h1, h2, h3, ⟨q, hq, h5⟩, h4⟩
            · have H4 := Lib.hid h4
              clear h4 dq
              (refine wp_region_grown (by kernel_rfl) (by kernel_rfl) ?_; (repeat (go_big_quiet_step (fail))); refine wpQuiet_nil ?_; intro _ hw'; obtain ⟨sG, hw''⟩ := hw'; subst hw'')
              go_wp2
              go_ret
              exact ⟨by rw [fitG_not (fun h => H4.out (h.page _ hlt))]; rfl, HB0.out.trans ((HBW.out.trans (sG.below.mono HBW.out.size)).mono HB0.out.size)⟩
            · have H4 := Lib.hid h4
              clear h4 dq
              (refine wp_region_grown (by kernel_rfl) (by kernel_rfl) ?_; (repeat (go_big_quiet_step (fail))); refine wpQuiet_nil ?_; intro _ hw'; obtain ⟨sG, hw''⟩ := hw'; subst hw'')
              go_wp2
              go_ret
              exact ⟨by rw [fitG_not (fun h => H4.out (h.page _ hlt))]; rfl, HB0.out.trans ((HBW.out.trans (sG.below.mono HBW.out.size)).mono HB0.out.size)⟩
            · have H4 := Lib.hid h4
              clear h4 dq
              (refine wp_region_grown (by kernel_rfl) (by kernel_rfl) ?_; (repeat (go_big_quiet_step (fail))); refine wpQuiet_nil ?_; intro _ hw'; obtain ⟨sG, hw''⟩ := hw'; subst hw'')
              go_wp2
              go_ret
              exact ⟨by rw [fitG_not (fun h => H4.out (h.page _ hlt))]; rfl, HB0.out.trans ((HBW.out.trans (sG.below.mono HBW.out.size)).mono HB0.out.size)⟩
            · have H4 := Lib.hid h4
              have d2 := dq q hq
              clear h4 dq
              subst hq
              have b4 : decide ((0 : Int) < (q : Int) + 1) = true := decide_eq_true (by omega)
              (refine wp_region_grown (by kernel_rfl) (by kernel_rfl) ?_; (repeat (go_big_quiet_step (fail))); refine wpQuiet_nil ?_; intro _ hw'; obtain ⟨sG, hw''⟩ := hw'; subst hw'')
              go_wp2
              go_ret
              exact ⟨by rw [fitG_not (fun h => H4.out (h.page _ hlt))]; rfl, HB0.out.trans ((HBW.out.trans (sG.below.mono HBW.out.size)).mono HB0.out.size)⟩
            · clear dq
              subst h0
              have H4 := Lib.hid h4
              clear h4
              (refine wp_region_grown (by kernel_rfl) (by kernel_rfl) ?_; (repeat (go_big_quiet_step (fail))); refine wpQuiet_nil ?_; intro _ hw'; obtain ⟨sG, hw''⟩ := hw'; subst hw'')
              obtain ⟨W2, hW2⟩ : ∃ W2, W2 = sG.w := ⟨_, rfl⟩
              have HB2 : Hid (Below W0.heap.size W0 W2) := Lib.hid (by rw [hW2]; exact HBW.out.trans (sG.below.mono HBW.out.size))
              have p0 : W2.cell? ⟨wr.heap.size, 0, none⟩ = some (.int .u32 (ps[0].num : Nat)) := by rw [hW2]; exact e0 sG
              rw [← hW2]
              clear hW2 e0 e1 d3 HE0 sG
              have q0 := cell_at (o := 0) (HR0.out W2 HB2.out) rfl
              have q1 := cell_at (o := 1) (HR0.out W2 HB2.out) rfl
              have q2 := cell_at (o := 2) (HR0.out W2 HB2.out) rfl
              obtain ⟨n, hnn⟩ : ∃ n : Nat, n = ps[0].num := ⟨_, rfl⟩
              have hn32 : n < 4294967296 := by rw [hnn]; exact HNK.out
              have hbs := HOK.out.2.1
              obtain ⟨a, ha⟩ : ∃ a : Nat, a = n * 4096 := ⟨_, rfl⟩
              obtain ⟨d, hd⟩ : ∃ d : Nat, d = base + a := ⟨_, rfl⟩
              obtain ⟨x, hx⟩ : ∃ x : Nat, x = d / 16384 := ⟨_, rfl⟩
              have f0 : IntKind.u64.wrap (n : Int) = (n : Int) := IntWalk.u64_in _ (by omega)
              have f1 : (n : Int) * 4096 = (a : Int) := by omega
              have f2 : IntKind.u64.wrap (a : Int) = (a : Int) := IntWalk.u64_in _ (by omega)
              have f3 : (base : Int) + (a : Int) = (d : Int) := by omega
              have f4 : IntKind.u64.wrap (d : Int) = (d : Int) := IntWalk.u64_in _ (by omega)
              have f5 : (d : Int) / 16384 = (x : Int) := by omega
              have f6 : IntKind.u64.wrap (x : Int) = (x : Int) := IntWalk.u64_in _ (by omega)
              have hh : Hid (okPage base ms ps 0 hlt ↔ hasB MapD.page ms x = true) := Lib.hid (by rw [H4.out, hostP, ← hnn, ← ha, ← hd, hx])
              rw [← hnn] at p0
              have HPL : Hid (Calls Try.prog 24 #[.agg #[.slice pm ms.length cm, .slice pc cs.length cc], .int .u64 (x : Nat)] W2 fun e w' => e = .returned (.int .i64 (placeI ms x)) ∧ Below W2.heap.size W2 w') := Lib.hid (rplace3_any ms HLEN.out.1 x _ _ W2 ((HMV.out.below HB0.out).below HB2.out))
              have hpn : Hid (decide (placeI ms x < 0) = !hasB MapD.page ms x) := Lib.hid placeI_neg
              clear hnn hn32 hbs ha hd hx h1 h2 h3
              cases hc : hasB MapD.page ms x
              · have b7 : decide (placeI ms x < 0) = true := by rw [hpn.out, hc]; rfl
                have hno : Hid (¬ okPage base ms ps 0 hlt) := Lib.hid (fun h => by have := hh.out.1 h; rw [hc] at this; cases this)
                clear hc
                go_wp2_with (go_at_call 24; (with_reducible refine HPL.out.mono ?_); rintro e w3 ⟨rfl, hb3⟩; have HB3 := Lib.hid hb3; clear hb3)
                go_ret
                exact ⟨by rw [fitG_not (fun h => hno.out (h.page _ hlt))]; rfl, HB0.out.trans ((HB2.out.trans (HB3.out.mono HB2.out.size)).mono HB0.out.size)⟩
              · have b7 : decide (placeI ms x < 0) = false := by rw [hpn.out, hc]; rfl
                have hyes : Hid (okPage base ms ps 0 hlt) := Lib.hid (hh.out.2 hc)
                clear hc
                go_wp2_with (go_at_call 24; (with_reducible refine HPL.out.mono ?_); rintro e w3 ⟨rfl, hb3⟩; have HB3 := Lib.hid hb3; clear hb3)
                go_roundw
                case rel => exact ⟨1, by omega, by go_num, Lib.hid (HB2.out.trans (HB3.out.mono HB2.out.size)), Lib.hid (snoc_all hlt HK.out hyes.out)⟩
                case measure => simp [intOf]; omega
            · have d2 := dq q hq
              clear dq
              subst hq
              have b4 : decide ((0 : Int) < (q : Int) + 1) = true := decide_eq_true (by omega)
              have H4 := Lib.hid h4
              clear h4
              (refine wp_region_grown (by kernel_rfl) (by kernel_rfl) ?_; (repeat (go_big_quiet_step (fail))); refine wpQuiet_nil ?_; intro _ hw'; obtain ⟨sG, hw''⟩ := hw'; subst hw'')
              obtain ⟨W2, hW2⟩ : ∃ W2, W2 = sG.w := ⟨_, rfl⟩
              have HB2 : Hid (Below W0.heap.size W0 W2) := Lib.hid (by rw [hW2]; exact HBW.out.trans (sG.below.mono HBW.out.size))
              have p0 : W2.cell? ⟨wr.heap.size, 0, none⟩ = some (.int .u32 (ps[(q + 1)].num : Nat)) := by rw [hW2]; exact e0 sG
              rw [← hW2]
              clear hW2 e0 e1 d3 HE0 sG d2
              have q0 := cell_at (o := 0) (HR0.out W2 HB2.out) rfl
              have q1 := cell_at (o := 1) (HR0.out W2 HB2.out) rfl
              have q2 := cell_at (o := 2) (HR0.out W2 HB2.out) rfl
              obtain ⟨n, hnn⟩ : ∃ n : Nat, n = ps[(q + 1)].num := ⟨_, rfl⟩
              have hn32 : n < 4294967296 := by rw [hnn]; exact HNK.out
              have hbs := HOK.out.2.1
              obtain ⟨a, ha⟩ : ∃ a : Nat, a = n * 4096 := ⟨_, rfl⟩
              obtain ⟨d, hd⟩ : ∃ d : Nat, d = base + a := ⟨_, rfl⟩
              obtain ⟨x, hx⟩ : ∃ x : Nat, x = d / 16384 := ⟨_, rfl⟩
              have f0 : IntKind.u64.wrap (n : Int) = (n : Int) := IntWalk.u64_in _ (by omega)
              have f1 : (n : Int) * 4096 = (a : Int) := by omega
              have f2 : IntKind.u64.wrap (a : Int) = (a : Int) := IntWalk.u64_in _ (by omega)
              have f3 : (base : Int) + (a : Int) = (d : Int) := by omega
              have f4 : IntKind.u64.wrap (d : Int) = (d : Int) := IntWalk.u64_in _ (by omega)
              have f5 : (d : Int) / 16384 = (x : Int) := by omega
              have f6 : IntKind.u64.wrap (x : Int) = (x : Int) := IntWalk.u64_in _ (by omega)
              have hh : Hid (okPage base ms ps (q + 1) hlt ↔ hasB MapD.page ms x = true) := Lib.hid (by rw [H4.out, hostP, ← hnn, ← ha, ← hd, hx])
              rw [← hnn] at p0
              have HPL : Hid (Calls Try.prog 24 #[.agg #[.slice pm ms.length cm, .slice pc cs.length cc], .int .u64 (x : Nat)] W2 fun e w' => e = .returned (.int .i64 (placeI ms x)) ∧ Below W2.heap.size W2 w') := Lib.hid (rplace3_any ms HLEN.out.1 x _ _ W2 ((HMV.out.below HB0.out).below HB2.out))
              have hpn : Hid (decide (placeI ms x < 0) = !hasB MapD.page ms x) := Lib.hid placeI_neg
              clear hnn hn32 hbs ha hd hx h1 h2 h3 h5
              cases hc : hasB MapD.page ms x
              · have b7 : decide (placeI ms x < 0) = true := by rw [hpn.out, hc]; rfl
                have hno : Hid (¬ okPage base ms ps (q + 1) hlt) := Lib.hid (fun h => by have := hh.out.1 h; rw [hc] at this; cases this)
                clear hc
                go_wp2_with (go_at_call 24; (with_reducible refine HPL.out.mono ?_); rintro e w3 ⟨rfl, hb3⟩; have HB3 := Lib.hid hb3; clear hb3)
                go_ret
                exact ⟨by rw [fitG_not (fun h => hno.out (h.page _ hlt))]; rfl, HB0.out.trans ((HB2.out.trans (HB3.out.mono HB2.out.size)).mono HB0.out.size)⟩
              · have b7 : decide (placeI ms x < 0) = false := by rw [hpn.out, hc]; rfl
                have hyes : Hid (okPage base ms ps (q + 1) hlt) := Lib.hid (hh.out.2 hc)
                clear hc
                go_wp2_with (go_at_call 24; (with_reducible refine HPL.out.mono ?_); rintro e w3 ⟨rfl, hb3⟩; have HB3 := Lib.hid hb3; clear hb3)
                go_roundw
                case rel => exact ⟨q + 2, by omega, by go_num, Lib.hid (HB2.out.trans (HB3.out.mono HB2.out.size)), Lib.hid (snoc_all hlt HK.out hyes.out)⟩
                case measure => simp [intOf]; omega
          · obtain rfl : k = ps.length := by omega
            have HPG : Hid (∀ j (h : j < ps.length), j < ps.length → okPage base ms ps j h) := HK
            have HBS2 := HB
            go_wp2
            clear l3 hlt hk HB HK HB1 g3
            go_loopw [5] (fun i wr => ∃ k : Nat, k ≤ ms.length ∧ i = .int .i64 k ∧ Hid (Below W0.heap.size W0 wr) ∧ Hid (∀ j (h : j < ms.length), j < k → okMapG base ps ms[j])) (fun i _ => ms.length - (intOf i).toNat)
            case atStart => exact ⟨0, Nat.zero_le _, rfl, HBS2, Lib.hid (fun j _ h => absurd h (Nat.not_lt_zero _))⟩
            case round =>
            obtain ⟨k, hk, rfl, HB, HK⟩ := hrel
            have l0 := cell_at (o := 0) (HR0.out wr HB.out) rfl
            by_cases hlt : k < ms.length
            · obtain ⟨b, off, rfl, hr⟩ := HM.out (ne_nil hlt)
              have HR := Lib.hid (hr.below HB0.out); clear hr
              have c0 := (HR.out.below HB.out).fst k hlt
              have c1 := (HR.out.below HB.out).snd k hlt
              have hsz := map_size
              go_upto_region 15 with fail
              obtain ⟨W1, hW1⟩ : ∃ W1, W1 = wr.alloc (.cells #[.int .u64 (ms[k].page : Nat), .int .i64 ms[k].prot] 80) := ⟨_, rfl⟩
              have H1 : Hid (W1.heap[wr.heap.size]? = some (.cells #[.int .u64 (ms[k].page : Nat), .int .i64 ms[k].prot] 80)) := Lib.hid (by rw [hW1]; exact heap_new _ _ _ rfl)
              have HB1 : Hid (Below wr.heap.size wr W1) := Lib.hid (by rw [hW1]; exact (Below.refl _ _).alloc (Nat.le_refl _) _)
              have HBW : Hid (Below W0.heap.size W0 W1) := Lib.hid (HB.out.trans (HB1.out.mono HB.out.size))
              rw [← hW1]
              clear hW1 c0 c1 l0
              have s0 := cell_at (o := 0) (HR0.out W1 HBW.out) rfl
              have s1 := cell_at (o := 1) (HR0.out W1 HBW.out) rfl
              have s2 := cell_at (o := 2) (HR0.out W1 HBW.out) rfl
              have s3 := cell_at (o := 3) (HR0.out W1 HBW.out) rfl
              have e0 := cell_at (o := 0) H1.out rfl
              obtain ⟨m, hm⟩ : ∃ m : MapD, m = ms[k] := ⟨_, rfl⟩
              have HMK := Lib.hid hm
              have hpg : m.page ≤ 1125899906842623 := by rw [hm]; exact ((fitH_iff.1 hF.out).map _ (List.getElem_mem hlt)).1
              obtain ⟨a, ha⟩ : ∃ a : Nat, a = m.page * 16384 := ⟨_, rfl⟩
              have f1 : (m.page : Int) * 16384 = (a : Int) := by omega
              have f2 : IntKind.u64.wrap (a : Int) = (a : Int) := IntWalk.u64_in _ (by omega)
              have HOW : Hid (Calls Try.prog 25 #[.agg #[.slice (some ⟨b, off, none⟩) ms.length cm, .slice pc cs.length cc, .int .u64 (base : Nat), .slice pp ps.length cp], .int .u64 (a : Nat)] W1 fun e w' => e = .returned (.tuple #[.int .u32 (ownN base a : Nat), .bool (inR base a)]) ∧ Below W1.heap.size W1 w') := Lib.hid (rown4_any base a HBS.out (by omega) _ _ _ W1)
              have HPX := Lib.hid hpg
              rw [← hm] at H1 e0
              have HC4 := Lib.hid (mapG_cases base ps m)
              rw [← ha] at HC4
              clear ha hpg hm
              obtain ⟨on, hon⟩ : ∃ on, on = ownN base a := ⟨_, rfl⟩
              rw [← hon] at HOW
              clear hon
              rcases HC4.out with ⟨h1, h4⟩ | ⟨h1, h2, h4⟩ | ⟨h1, h2, h3, h4⟩ | ⟨h1, h2, h3, h4⟩
              · have H4 := Lib.hid h4
                clear h4
                go_upto_region 16 with ((go_at_call 25; (with_reducible refine HOW.out.mono ?_); rintro e w2 ⟨rfl, hb2⟩; rw [h1]; have HB12 := Lib.hid hb2; clear hb2))
                have HB2 : Hid (Below W0.heap.size W0 w2) := Lib.hid (HBW.out.trans (HB12.out.mono HBW.out.size))
                have s0 := cell_at (o := 0) (HR0.out w2 HB2.out) rfl
                have s1 := cell_at (o := 1) (HR0.out w2 HB2.out) rfl
                have s2 := cell_at (o := 2) (HR0.out w2 HB2.out) rfl
                have s3 := cell_at (o := 3) (HR0.out w2 HB2.out) rfl
                have p0 := cell_at (o := 0) ((HB12.out.block _ (heap_lt H1.out)).trans H1.out) rfl
                have p1 := cell_at (o := 1) ((HB12.out.block _ (heap_lt H1.out)).trans H1.out) rfl
                have HUS : Hid (Calls Try.prog 26 #[.agg #[.slice (some ⟨b, off, none⟩) ms.length cm, .slice pc cs.length cc, .int .u64 (base : Nat), .slice pp ps.length cp], .int .u64 (m.page : Nat)] w2 fun e w' => e = .returned (.bool (usedB base ps m.page)) ∧ Below w2.heap.size w2 w') := Lib.hid (rused4_any ps HLEN.out.2.2 HNUM.out base m.page HOK.out.2.1 (Nat.lt_of_le_of_lt HPX.out (by decide)) _ _ _ w2 ((HPV.out.below HB0.out).below HB2.out))
                go_wp2_with (fail)
                go_roundw
                case rel => exact ⟨k + 1, by omega, by go_num, HB2, Lib.hid (snoc_all (Q := fun j h => okMapG base ps ms[j]) hlt HK.out (by rw [← HMK.out]; exact H4.out))⟩
                case measure => simp [intOf]; omega
              · have H4 := Lib.hid h4
                clear h4
                go_upto_region 16 with ((go_at_call 25; (with_reducible refine HOW.out.mono ?_); rintro e w2 ⟨rfl, hb2⟩; rw [h1]; have HB12 := Lib.hid hb2; clear hb2))
                have HB2 : Hid (Below W0.heap.size W0 w2) := Lib.hid (HBW.out.trans (HB12.out.mono HBW.out.size))
                have s0 := cell_at (o := 0) (HR0.out w2 HB2.out) rfl
                have s1 := cell_at (o := 1) (HR0.out w2 HB2.out) rfl
                have s2 := cell_at (o := 2) (HR0.out w2 HB2.out) rfl
                have s3 := cell_at (o := 3) (HR0.out w2 HB2.out) rfl
                have p0 := cell_at (o := 0) ((HB12.out.block _ (heap_lt H1.out)).trans H1.out) rfl
                have p1 := cell_at (o := 1) ((HB12.out.block _ (heap_lt H1.out)).trans H1.out) rfl
                have HUS : Hid (Calls Try.prog 26 #[.agg #[.slice (some ⟨b, off, none⟩) ms.length cm, .slice pc cs.length cc, .int .u64 (base : Nat), .slice pp ps.length cp], .int .u64 (m.page : Nat)] w2 fun e w' => e = .returned (.bool (usedB base ps m.page)) ∧ Below w2.heap.size w2 w') := Lib.hid (rused4_any ps HLEN.out.2.2 HNUM.out base m.page HOK.out.2.1 (Nat.lt_of_le_of_lt HPX.out (by decide)) _ _ _ w2 ((HPV.out.below HB0.out).below HB2.out))
                go_wp2_with (fail)
                go_ret
                exact ⟨by rw [fitG_not (fun h => H4.out (by rw [HMK.out]; exact h.map _ (List.getElem_mem hlt)))]; rfl, HB0.out.trans (HB2.out.mono HB0.out.size)⟩
              · have H4 := Lib.hid h4
                clear h4
                go_upto_region 16 with ((go_at_call 25; (with_reducible refine HOW.out.mono ?_); rintro e w2 ⟨rfl, hb2⟩; rw [h1]; have HB12 := Lib.hid hb2; clear hb2))
                have HB2 : Hid (Below W0.heap.size W0 w2) := Lib.hid (HBW.out.trans (HB12.out.mono HBW.out.size))
                have s0 := cell_at (o := 0) (HR0.out w2 HB2.out) rfl
                have s1 := cell_at (o := 1) (HR0.out w2 HB2.out) rfl
                have s2 := cell_at (o := 2) (HR0.out w2 HB2.out) rfl
                have s3 := cell_at (o := 3) (HR0.out w2 HB2.out) rfl
                have p0 := cell_at (o := 0) ((HB12.out.block _ (heap_lt H1.out)).trans H1.out) rfl
                have p1 := cell_at (o := 1) ((HB12.out.block _ (heap_lt H1.out)).trans H1.out) rfl
                have HUS : Hid (Calls Try.prog 26 #[.agg #[.slice (some ⟨b, off, none⟩) ms.length cm, .slice pc cs.length cc, .int .u64 (base : Nat), .slice pp ps.length cp], .int .u64 (m.page : Nat)] w2 fun e w' => e = .returned (.bool (usedB base ps m.page)) ∧ Below w2.heap.size w2 w') := Lib.hid (rused4_any ps HLEN.out.2.2 HNUM.out base m.page HOK.out.2.1 (Nat.lt_of_le_of_lt HPX.out (by decide)) _ _ _ w2 ((HPV.out.below HB0.out).below HB2.out))
                go_wp2_with ((go_at_call 26; (with_reducible refine HUS.out.mono ?_); rintro e w3 ⟨rfl, hb3⟩; rw [h3]; have HB3 : Hid (Below W0.heap.size W0 w3) := Lib.hid (HB2.out.trans (hb3.mono HB2.out.size)); clear hb3))
                go_ret
                exact ⟨by rw [fitG_not (fun h => H4.out (by rw [HMK.out]; exact h.map _ (List.getElem_mem hlt)))]; rfl, HB0.out.trans (HB3.out.mono HB0.out.size)⟩
              · have H4 := Lib.hid h4
                clear h4
                go_upto_region 16 with ((go_at_call 25; (with_reducible refine HOW.out.mono ?_); rintro e w2 ⟨rfl, hb2⟩; rw [h1]; have HB12 := Lib.hid hb2; clear hb2))
                have HB2 : Hid (Below W0.heap.size W0 w2) := Lib.hid (HBW.out.trans (HB12.out.mono HBW.out.size))
                have s0 := cell_at (o := 0) (HR0.out w2 HB2.out) rfl
                have s1 := cell_at (o := 1) (HR0.out w2 HB2.out) rfl
                have s2 := cell_at (o := 2) (HR0.out w2 HB2.out) rfl
                have s3 := cell_at (o := 3) (HR0.out w2 HB2.out) rfl
                have p0 := cell_at (o := 0) ((HB12.out.block _ (heap_lt H1.out)).trans H1.out) rfl
                have p1 := cell_at (o := 1) ((HB12.out.block _ (heap_lt H1.out)).trans H1.out) rfl
                have HUS : Hid (Calls Try.prog 26 #[.agg #[.slice (some ⟨b, off, none⟩) ms.length cm, .slice pc cs.length cc, .int .u64 (base : Nat), .slice pp ps.length cp], .int .u64 (m.page : Nat)] w2 fun e w' => e = .returned (.bool (usedB base ps m.page)) ∧ Below w2.heap.size w2 w') := Lib.hid (rused4_any ps HLEN.out.2.2 HNUM.out base m.page HOK.out.2.1 (Nat.lt_of_le_of_lt HPX.out (by decide)) _ _ _ w2 ((HPV.out.below HB0.out).below HB2.out))
                go_wp2_with ((go_at_call 26; (with_reducible refine HUS.out.mono ?_); rintro e w3 ⟨rfl, hb3⟩; rw [h3]; have HB3 : Hid (Below W0.heap.size W0 w3) := Lib.hid (HB2.out.trans (hb3.mono HB2.out.size)); clear hb3))
                go_roundw
                case rel => exact ⟨k + 1, by omega, by go_num, HB3, Lib.hid (snoc_all (Q := fun j h => okMapG base ps ms[j]) hlt HK.out (by rw [← HMK.out]; exact H4.out))⟩
                case measure => simp [intOf]; omega
            · obtain rfl : k = ms.length := by omega
              have HMG : Hid (∀ j (h : j < ms.length), j < ms.length → okMapG base ps ms[j]) := HK
              have HBS3 := HB
              go_wp2
              clear l0 hlt hk HB HK HBS2
              go_loopw [9] (fun i wr => ∃ k : Nat, k ≤ cs.length ∧ i = .int .i64 k ∧ Hid (Below W0.heap.size W0 wr) ∧ Hid (∀ j (h : j < cs.length), j < k → okCellG base ps cs[j])) (fun i _ => cs.length - (intOf i).toNat)
              case atStart => exact ⟨0, Nat.zero_le _, rfl, HBS3, Lib.hid (fun j _ h => absurd h (Nat.not_lt_zero _))⟩
              case round =>
              obtain ⟨k, hk, rfl, HB, HK⟩ := hrel
              have l1 := cell_at (o := 1) (HR0.out wr HB.out) rfl
              by_cases hlt : k < cs.length
              · obtain ⟨b, off, rfl, hr⟩ := HC.out (ne_nil hlt)
                have HR := Lib.hid (hr.below HB0.out); clear hr
                have d0 : ∀ s : Grown wr, s.w.cell? ⟨w.heap.size, 0, none⟩ = some (.slice pm ms.length cm) := fun s => cell_at (o := 0) (HR0.out s.w (HB.out.trans (s.below.mono HB.out.size))) rfl
                have d1 : ∀ s : Grown wr, s.w.cell? ⟨w.heap.size, 1, none⟩ = some (.slice (some ⟨b, off, none⟩) cs.length cc) := fun s => cell_at (o := 1) (HR0.out s.w (HB.out.trans (s.below.mono HB.out.size))) rfl
                have d2 : ∀ s : Grown wr, s.w.cell? ⟨w.heap.size, 2, none⟩ = some (.int .u64 (base : Nat)) := fun s => cell_at (o := 2) (HR0.out s.w (HB.out.trans (s.below.mono HB.out.size))) rfl
                have d3 : ∀ s : Grown wr, s.w.cell? ⟨w.heap.size, 3, none⟩ = some (.slice pp ps.length cp) := fun s => cell_at (o := 3) (HR0.out s.w (HB.out.trans (s.below.mono HB.out.size))) rfl
                obtain ⟨m, hm⟩ : ∃ m : CellD, m = cs[k] := ⟨_, rfl⟩
                have e0 : ∀ s : Grown wr, s.w.cell? ⟨b, off + k * 2, none⟩ = some (.int .u64 (m.pos : Nat)) := fun s => by rw [hm]; exact ((HR.out.below HB.out).below s.below).fst k hlt
                have HMK := Lib.hid hm
                have HPX : Hid (m.pos < 18446744073709551616) := Lib.hid (by rw [hm]; exact HPOS.out _ (List.getElem_mem hlt))
                have HC4 := Lib.hid (cellG_cases base ps m)
                clear hm
                obtain ⟨on, hon⟩ : ∃ on, on = ownN base m.pos := ⟨_, rfl⟩
                have HOW : Hid (∀ s : Grown wr, Calls Try.prog 25 #[.agg #[.slice pm ms.length cm, .slice (some ⟨b, off, none⟩) cs.length cc, .int .u64 (base : Nat), .slice pp ps.length cp], .int .u64 (m.pos : Nat)] s.w fun e w' => e = .returned (.tuple #[.int .u32 (on : Nat), .bool (inR base m.pos)]) ∧ Below s.w.heap.size s.w w') := Lib.hid (fun s => by rw [hon]; exact rown4_any base m.pos HBS.out HPX.out _ _ _ s.w)
                rw [← hon] at HC4
                clear hon
                rcases HC4.out with ⟨h1, h4⟩ | ⟨h1, h2, h4⟩ | ⟨h1, h2, h4⟩
                · have H4 := Lib.hid h4
                  clear h4
                  rw [h1] at HOW
                  go_wp2
                  (refine wp_region_grown (by kernel_rfl) (by kernel_rfl) ?_; (repeat (go_big_quiet_step ((go_at_call 25; with_reducible exact Calls.grown (HOW.out _))))); refine wpQuiet_nil ?_; intro _ hw'; obtain ⟨sG, hw''⟩ := hw'; subst hw'')
                  obtain ⟨W2, hW2⟩ : ∃ W2, W2 = sG.w := ⟨_, rfl⟩
                  have HB2 : Hid (Below W0.heap.size W0 W2) := Lib.hid (by rw [hW2]; exact HB.out.trans (sG.below.mono HB.out.size))
                  rw [← hW2]
                  clear hW2 d0 d1 d2 d3 e0 sG l1
                  have s0 := cell_at (o := 0) (HR0.out W2 HB2.out) rfl
                  have s1 := cell_at (o := 1) (HR0.out W2 HB2.out) rfl
                  have s2 := cell_at (o := 2) (HR0.out W2 HB2.out) rfl
                  have s3 := cell_at (o := 3) (HR0.out W2 HB2.out) rfl
                  have HPR : Hid (Calls Try.prog 27 #[.agg #[.slice pm ms.length cm, .slice (some ⟨b, off, none⟩) cs.length cc, .int .u64 (base : Nat), .slice pp ps.length cp], .int .u32 (on : Nat)] W2 fun e w' => e = .returned (.int .i64 (protL ps on)) ∧ Below W2.heap.size W2 w') := Lib.hid (rprot4_any ps HLEN.out.2.2 on base _ _ _ W2 ((HPV.out.below HB0.out).below HB2.out))
                  go_wp2_with (go_at_call 27; (with_reducible refine HPR.out.mono ?_); rintro e w3 ⟨rfl, hb3⟩; have HB3 : Hid (Below W0.heap.size W0 w3) := Lib.hid (HB2.out.trans (hb3.mono HB2.out.size)); clear hb3)
                  go_roundw
                  case rel => exact ⟨k + 1, by omega, by go_num, HB2, Lib.hid (snoc_all (Q := fun j h => okCellG base ps cs[j]) hlt HK.out (by rw [← HMK.out]; exact H4.out))⟩
                  case measure => simp [intOf]; omega
                · have H4 := Lib.hid h4
                  clear h4
                  rw [h1] at HOW
                  go_wp2
                  (refine wp_region_grown (by kernel_rfl) (by kernel_rfl) ?_; (repeat (go_big_quiet_step ((go_at_call 25; with_reducible exact Calls.grown (HOW.out _))))); refine wpQuiet_nil ?_; intro _ hw'; obtain ⟨sG, hw''⟩ := hw'; subst hw'')
                  obtain ⟨W2, hW2⟩ : ∃ W2, W2 = sG.w := ⟨_, rfl⟩
                  have HB2 : Hid (Below W0.heap.size W0 W2) := Lib.hid (by rw [hW2]; exact HB.out.trans (sG.below.mono HB.out.size))
                  rw [← hW2]
                  clear hW2 d0 d1 d2 d3 e0 sG l1
                  have s0 := cell_at (o := 0) (HR0.out W2 HB2.out) rfl
                  have s1 := cell_at (o := 1) (HR0.out W2 HB2.out) rfl
                  have s2 := cell_at (o := 2) (HR0.out W2 HB2.out) rfl
                  have s3 := cell_at (o := 3) (HR0.out W2 HB2.out) rfl
                  have HPR : Hid (Calls Try.prog 27 #[.agg #[.slice pm ms.length cm, .slice (some ⟨b, off, none⟩) cs.length cc, .int .u64 (base : Nat), .slice pp ps.length cp], .int .u32 (on : Nat)] W2 fun e w' => e = .returned (.int .i64 (protL ps on)) ∧ Below W2.heap.size W2 w') := Lib.hid (rprot4_any ps HLEN.out.2.2 on base _ _ _ W2 ((HPV.out.below HB0.out).below HB2.out))
                  go_wp2_with (go_at_call 27; (with_reducible refine HPR.out.mono ?_); rintro e w3 ⟨rfl, hb3⟩; have HB3 : Hid (Below W0.heap.size W0 w3) := Lib.hid (HB2.out.trans (hb3.mono HB2.out.size)); clear hb3)
                  go_ret
                  exact ⟨by rw [fitG_not (fun h => H4.out (by rw [HMK.out]; exact h.cell _ (List.getElem_mem hlt)))]; rfl, HB0.out.trans (HB3.out.mono HB0.out.size)⟩
                · have H4 := Lib.hid h4
                  clear h4
                  rw [h1] at HOW
                  go_wp2
                  (refine wp_region_grown (by kernel_rfl) (by kernel_rfl) ?_; (repeat (go_big_quiet_step ((go_at_call 25; with_reducible exact Calls.grown (HOW.out _))))); refine wpQuiet_nil ?_; intro _ hw'; obtain ⟨sG, hw''⟩ := hw'; subst hw'')
                  obtain ⟨W2, hW2⟩ : ∃ W2, W2 = sG.w := ⟨_, rfl⟩
                  have HB2 : Hid (Below W0.heap.size W0 W2) := Lib.hid (by rw [hW2]; exact HB.out.trans (sG.below.mono HB.out.size))
                  rw [← hW2]
                  clear hW2 d0 d1 d2 d3 e0 sG l1
                  have s0 := cell_at (o := 0) (HR0.out W2 HB2.out) rfl
                  have s1 := cell_at (o := 1) (HR0.out W2 HB2.out) rfl
                  have s2 := cell_at (o := 2) (HR0.out W2 HB2.out) rfl
                  have s3 := cell_at (o := 3) (HR0.out W2 HB2.out) rfl
                  have HPR : Hid (Calls Try.prog 27 #[.agg #[.slice pm ms.length cm, .slice (some ⟨b, off, none⟩) cs.length cc, .int .u64 (base : Nat), .slice pp ps.length cp], .int .u32 (on : Nat)] W2 fun e w' => e = .returned (.int .i64 (protL ps on)) ∧ Below W2.heap.size W2 w') := Lib.hid (rprot4_any ps HLEN.out.2.2 on base _ _ _ W2 ((HPV.out.below HB0.out).below HB2.out))
                  go_wp2_with (go_at_call 27; (with_reducible refine HPR.out.mono ?_); rintro e w3 ⟨rfl, hb3⟩; have HB3 : Hid (Below W0.heap.size W0 w3) := Lib.hid (HB2.out.trans (hb3.mono HB2.out.size)); clear hb3)
                  go_roundw
                  case rel => exact ⟨k + 1, by omega, by go_num, HB3, Lib.hid (snoc_all (Q := fun j h => okCellG base ps cs[j]) hlt HK.out (by rw [← HMK.out]; exact H4.out))⟩
                  case measure => simp [intOf]; omega
              · obtain rfl : k = cs.length := by omega
                have hres : Hid (fitG base ms cs ps = true) := Lib.hid (fitG_iff.2 (guestOk_of (fitH_iff.1 hF.out) HOK.out.1 HOK.out.2.1 HOK.out.2.2 HPG.out HMG.out HK.out))
                go_wp2
                go_ret
                exact ⟨by rw [hres.out]; rfl, HB0.out.trans (HB.out.mono HB0.out.size)⟩
        · have g3 : (256 : Int) < (ps.length : Int) := by omega
          have C3 := Lib.hid c3
          clear c1 hlow c3
          have hres : Hid (fitG base ms cs ps = false) := Lib.hid (fitG_not fun h => C3.out h.few)
          go_wp2_with (go_at_call 23; refine (HF3.out _ HB0.out).mono ?_; rintro e w1 ⟨rfl, hb1⟩; rw [hF.out]; have HB1 := Lib.hid hb1; clear hb1; have q2 := cell_at (o := 2) (HR0.out w1 HB1.out) rfl; have q3 := cell_at (o := 3) (HR0.out w1 HB1.out) rfl)
          go_ret
          exact ⟨by rw [hres.out]; rfl, HB0.out.trans (HB1.out.mono HB0.out.size)⟩
      · have C2 := Lib.hid c2
        clear c1
        have hres : Hid (fitG base ms cs ps = false) := Lib.hid (fitG_not fun h => by have h1 := C2.out; have h2 := h.low; simp only [bigB, decide_eq_true_eq] at h1; omega)
        go_wp2_with (go_at_call 23; refine (HF3.out _ HB0.out).mono ?_; rintro e w1 ⟨rfl, hb1⟩; rw [hF.out]; have HB1 := Lib.hid hb1; clear hb1; have q2 := cell_at (o := 2) (HR0.out w1 HB1.out) rfl; have q3 := cell_at (o := 3) (HR0.out w1 HB1.out) rfl)
        go_ret
        exact ⟨by rw [hres.out]; rfl, HB0.out.trans (HB1.out.mono HB0.out.size)⟩
    · have g1 : (((base : Int) % 16384 != 0) : Bool) = true := by simp only [bne_iff_ne]; omega
      have C1 := Lib.hid c1
      clear c1
      have hres : Hid (fitG base ms cs ps = false) := Lib.hid (fitG_not fun h => C1.out h.round)
      go_wp2_with (go_at_call 23; refine (HF3.out _ HB0.out).mono ?_; rintro e w1 ⟨rfl, hb1⟩; rw [hF.out]; have HB1 := Lib.hid hb1; clear hb1; have q2 := cell_at (o := 2) (HR0.out w1 HB1.out) rfl; have q3 := cell_at (o := 3) (HR0.out w1 HB1.out) rfl)
      go_ret
      exact ⟨by rw [hres.out]; rfl, HB0.out.trans (HB1.out.mono HB0.out.size)⟩
end Go.Proofs.Ytbaelhaajplbnaa
