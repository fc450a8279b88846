/-
  FrameWithin: which arguments are few and fit; where an address of the guest lies.
-/
import Derived.Test.YtbaelhaajplbnaaFHoF
import Derived.Test.YtbaelhaajplbnaaFHoS
import Derived.Test.YtbaelhaajplbnaaFPlace
namespace Go.Proofs.Ytbaelhaajplbnaa
open Go Go.RowKit
set_option linter.unusedVariables false
set_option linter.unusedSimpArgs false

theorem r4place_any (base a : Nat) (hb : base ≤ 4611686018427387904) (ha : a < 4294967296) (v0 v1 v3 : Value) (w : World) :
    Calls Try.prog 7 #[.agg #[v0, v1, .int .u64 base, v3], .int .u32 a] w fun e w' => e = .returned (.int .u64 ((base : Int) + a)) ∧ Below w.heap.size w w' := by
  have h1 : (base : Int) ≤ 4611686018427387904 := by omega
  have h2 : (a : Int) < 4294967296 := by omega
  have h3 : (0 : Int) ≤ (base : Int) + a := by omega
  have h4 : (base : Int) + a ≤ 18446744073709551615 := by omega
  go_enter Try.func7, Try.ntmps7
  go_wp2
  go_ret
  exact ⟨rfl, (Below.refl _ _).alloc (Nat.le_refl _) _⟩

noncomputable def fewB (c s : Array Value) (base : Nat) (ms : List MapD) (cs : List CellD) (ps : List PageD) : Bool :=
  decide (ms.length ≤ 70) && decide (cs.length ≤ 300) && decide (ps.length ≤ 60) && fitG base ms cs ps && (iat c 0 == 0) && fitSig s
structure Few (c s : Array Value) (base : Nat) (ms : List MapD) (cs : List CellD) (ps : List PageD) : Prop where
  m : ms.length ≤ 70
  c : cs.length ≤ 300
  p : ps.length ≤ 60
  fit : GuestOk base ms cs ps
theorem few_of {c s : Array Value} {base : Nat} {ms : List MapD} {cs : List CellD} {ps : List PageD} (h : fewB c s base ms cs ps = true) : Few c s base ms cs ps := by
  simp only [fewB, Bool.and_eq_true, decide_eq_true_eq] at h
  obtain ⟨⟨⟨⟨⟨h1, h2⟩, h3⟩, h4⟩, _⟩, _⟩ := h
  exact ⟨h1, h2, h3, fitG_iff.1 h4⟩
set_option maxHeartbeats 4000000 in
set_option maxRecDepth 100000 in
theorem few_any (c s : Array Value) (hc : Fits cpuK c.toList) (hs : Fits sigK s.toList) (base : Nat) (ms : List MapD) (cs : List CellD) (ps : List PageD) (hw : ∀ c ∈ cs, c.pos < 18446744073709551616) (hn : ∀ p ∈ ps, p.num < 4294967296) (hb : base < 18446744073709551616)
    (m1 : Option Addr) (m2 : Nat) (c1 : Option Addr) (c2 : Nat) (p1 : Option Addr) (p2 : Nat) (w : World) (hm : MapsV w (.slice m1 ms.length m2) ms) (hcv : CellsV w (.slice c1 cs.length c2) cs) (hp : PagesV w (.slice p1 ps.length p2) ps) :
    Calls Try.prog 4 #[.agg c, .agg #[.slice m1 ms.length m2, .slice c1 cs.length c2, .int .u64 base, .slice p1 ps.length p2], .agg s] w fun e w' => e = .returned (.bool (fewB c s base ms cs ps)) ∧ Below w.heap.size w w' := by
  have HSZ : Hid ((Try.prog.info? 40).map (·.size) = some s.size) := Lib.hid (by rw [hs.arr_size]; kernel_rfl)
  have HCZ : Hid ((Try.prog.info? 25).map (·.size) = some c.size) := Lib.hid (by rw [hc.arr_size]; kernel_rfl)
  have HF4 : Hid (ms.length ≤ 70 → cs.length ≤ 300 → ps.length ≤ 60 → ∀ W, Below w.heap.size w W → Calls Try.prog 9 #[.agg #[.slice m1 ms.length m2, .slice c1 cs.length c2, .int .u64 base, .slice p1 ps.length p2]] W fun e w' => e = .returned (.bool (fitG base ms cs ps)) ∧ Below W.heap.size W w') :=
    Lib.hid (fun h1 h2 h3 W hW => rfit4_any base ms cs ps (by omega) (by omega) (by omega) hw hn hb _ _ _ W (hm.below hW) (hcv.below hW) (hp.below hW))
  have HC := Lib.hid hc; have HS := Lib.hid hs
  clear hc hs hw hn hb hm hcv hp
  obtain ⟨r, hr⟩ : ∃ r, r = fewB c s base ms cs ps := ⟨_, rfl⟩
  rw [← hr]
  have HR := Lib.hid hr
  clear hr
  go_enter Try.func4, Try.ntmps4
  go_upto_region 1 with fail
  obtain ⟨W, hW⟩ : ∃ W, W = ((w.alloc (.cells c 25)).alloc (.cells #[.slice m1 ms.length m2, .slice c1 cs.length c2, .int .u64 base, .slice p1 ps.length p2] 33)).alloc (.cells s 40) := ⟨_, rfl⟩
  have HZ : Hid (W.heap.size = w.heap.size + 3) := Lib.hid (by rw [hW]; simp only [heap_len])
  have A0 : Hid (W.heap[w.heap.size]? = some (.cells c 25)) := Lib.hid (by rw [hW]; (repeat (refine (heap_old _ _ _ (by simp only [heap_len]; omega)).trans ?_)); exact heap_new _ _ _ rfl)
  have A1 : Hid (W.heap[w.heap.size + 1]? = some (.cells #[.slice m1 ms.length m2, .slice c1 cs.length c2, .int .u64 base, .slice p1 ps.length p2] 33)) := Lib.hid (by rw [hW]; (repeat (refine (heap_old _ _ _ (by simp only [heap_len]; omega)).trans ?_)); exact heap_new _ _ _ (by simp only [heap_len]))
  have A2 : Hid (W.heap[w.heap.size + 1 + 1]? = some (.cells s 40)) := Lib.hid (by rw [hW]; exact heap_new _ _ _ (by simp only [heap_len]))
  have HB : Hid (Below w.heap.size w W) := Lib.hid (by rw [hW]; exact (((Below.refl _ _).alloc (Nat.le_refl _) _).alloc (by simp only [heap_len]; omega) _).alloc (by simp only [heap_len]; omega) _)
  rw [← hW]
  clear hW
  have l0 := cell_at (o := 0) A1.out rfl
  have l1 := cell_at (o := 1) A1.out rfl
  have l2 := cell_at (o := 2) A1.out rfl
  have l3 := cell_at (o := 3) A1.out rfl
  by_cases h1 : ms.length ≤ 70
  · have i1 : (ms.length : Int) ≤ 70 := by omega
    by_cases h2 : cs.length ≤ 300
    · have i2 : (cs.length : Int) ≤ 300 := by omega
      by_cases h3 : ps.length ≤ 60
      · have i3 : (ps.length : Int) ≤ 60 := by omega
        have HF := Lib.hid (HF4.out h1 h2 h3)
        have H123 := Lib.hid (And.intro h1 (And.intro h2 h3))
        clear HF4 h1 h2 h3
        cases f4 : fitG base ms cs ps
        · have F4 := Lib.hid f4; clear f4
          go_wp2_with (go_at_call 9; refine (HF.out _ HB.out).mono ?_; rintro e w1 ⟨rfl, hb1⟩; rw [F4.out])
          go_ret
          exact ⟨by rw [HR.out, fewB, F4.out]; simp, HB.out.trans (hb1.mono HB.out.size)⟩
        · have F4 := Lib.hid f4; clear f4
          cases f0 : (iat c 0 == 0)
          · have F0 := Lib.hid f0; clear f0
            go_wp2_with (first
              | (go_at_call 9; refine (HF.out _ HB.out).mono ?_; rintro e w1 ⟨rfl, hb1⟩; rw [F4.out]; have HB1 := Lib.hid hb1; clear hb1)
              | (refine wpl_load 25 ?_; refine LoadGoal.of c rfl ((HB1.out.block _ (heap_lt A0.out)).trans A0.out) (by kernel_rfl) HCZ.out rfl ?_)
              | (go_at_call 10; refine (fit27_any c HC.out _).mono ?_; rintro e w' ⟨rfl, rfl⟩; rw [F0.out]))
            go_ret
            exact ⟨by rw [HR.out, fewB, F4.out, F0.out]; simp, (HB.out.trans (HB1.out.mono HB.out.size)).trans (((Below.refl _ _).alloc (Nat.le_trans HB.out.size HB1.out.size) _).alloc (by have := HB.out.size; have := HB1.out.size; simp only [heap_len]; omega) _)⟩
          · have F0 := Lib.hid f0; clear f0
            go_wp2_with (first
              | (go_at_call 9; refine (HF.out _ HB.out).mono ?_; rintro e w1 ⟨rfl, hb1⟩; rw [F4.out]; have HB1 := Lib.hid hb1; clear hb1)
              | (refine wpl_load 25 ?_; refine LoadGoal.of c rfl ((HB1.out.block _ (heap_lt A0.out)).trans A0.out) (by kernel_rfl) HCZ.out rfl ?_)
              | (go_at_call 10; refine (fit27_any c HC.out _).mono ?_; rintro e w' ⟨rfl, rfl⟩; rw [F0.out])
              | (refine wpl_load 40 ?_; refine LoadGoal.of s rfl ((heap_old _ _ _ (by have := heap_lt A2.out; have := HB1.out.size; simp only [heap_len]; omega)).trans ((heap_old _ _ _ (by have := heap_lt A2.out; have := HB1.out.size; omega)).trans ((HB1.out.block _ (heap_lt A2.out)).trans A2.out))) (by kernel_rfl) HSZ.out rfl ?_)
              | (go_at_call 11; refine (fit26_any s HS.out _).mono ?_; rintro e w' ⟨rfl, m, rfl⟩))
            go_ret
            refine ⟨by rw [HR.out, fewB, F4.out, F0.out, decide_eq_true H123.out.1, decide_eq_true H123.out.2.1, decide_eq_true H123.out.2.2]; simp, (HB.out.trans (HB1.out.mono HB.out.size)).trans ?_⟩
            have z := Nat.le_trans HB.out.size HB1.out.size
            exact below_drewN ((((Below.refl _ _).alloc z _).alloc (by simp only [heap_len]; omega) _).alloc (by simp only [heap_len]; omega) _) _
      · have i3 : (60 : Int) < (ps.length : Int) := by omega
        have hF : Hid (r = false) := Lib.hid (by rw [HR.out, fewB, decide_eq_false h3]; simp)
        clear h1 h2 h3
        go_wp2
        go_ret
        exact ⟨by rw [hF.out]; rfl, HB.out⟩
    · have i2 : (300 : Int) < (cs.length : Int) := by omega
      have hF : Hid (r = false) := Lib.hid (by rw [HR.out, fewB, decide_eq_false h2]; simp)
      clear h1 h2
      go_wp2
      go_ret
      exact ⟨by rw [hF.out]; rfl, HB.out⟩
  · have i1 : (70 : Int) < (ms.length : Int) := by omega
    have hF : Hid (r = false) := Lib.hid (by rw [HR.out, fewB, decide_eq_false h1]; simp)
    clear h1
    go_wp2
    go_ret
    exact ⟨by rw [hF.out]; rfl, HB.out⟩
end Go.Proofs.Ytbaelhaajplbnaa
