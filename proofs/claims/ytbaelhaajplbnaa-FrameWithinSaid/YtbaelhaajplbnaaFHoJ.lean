/-
  What may be done with a guest's page, and a cell's word: the program.
-/
import Derived.Test.YtbaelhaajplbnaaFHoI
namespace Go.Proofs.Ytbaelhaajplbnaa
open Go Go.RowKit
set_option linter.unusedVariables false
set_option linter.unusedSimpArgs false

theorem protL_low {ps : List PageD} (hr : Rise PageD.num ps) (x : Nat) (h : hasB PageD.num ps x = true) : ∃ hl : lowB PageD.num ps x < ps.length, protL ps x = (ps[lowB PageD.num ps x]'hl).prot := by
  obtain ⟨h1, h2⟩ := (hasB_at hr).1 h
  exact ⟨h1, protL_find h1 (fun j hj hjk => by have := lowB_lt hjk hj; omega) h2⟩
theorem protL_not {ps : List PageD} {x : Nat} (h : hasB PageD.num ps x = false) : protL ps x = -1 :=
  protL_none fun j hj _ e => by
    have : hasB PageD.num ps x = true := by
      simp only [hasB, List.any_eq_true, beq_iff_eq]; exact ⟨_, List.getElem_mem hj, e⟩
    rw [h] at this; cases this
theorem wordL_at2 {cs : List CellD} (hr : Rise CellD.pos cs) (x : Nat) (h : hasB CellD.pos cs x = true) : ∃ hl : lowB CellD.pos cs x < cs.length, wordL cs x = (cs[lowB CellD.pos cs x]'hl).word := by
  obtain ⟨h1, h2⟩ := (hasB_at hr).1 h
  exact ⟨h1, wordL_find h1 (fun j hj hjk => by have := lowB_lt hjk hj; omega) h2⟩
theorem wordL_no {cs : List CellD} {x : Nat} (h : hasB CellD.pos cs x = false) : wordL cs x = 0 :=
  wordL_none fun j hj _ e => by
    have : hasB CellD.pos cs x = true := by
      simp only [hasB, List.any_eq_true, beq_iff_eq]; exact ⟨_, List.getElem_mem hj, e⟩
    rw [h] at this; cases this

set_option maxHeartbeats 1000000 in
theorem prot_any (ps : List PageD) (hr : Rise PageD.num ps) (hlen : ps.length ≤ 1000000) (x base : Nat) (vm vc vp : Value) (w : World) (h : PagesV w vp ps) :
    Calls Try.prog 64 #[.agg (guestV vm vc base vp), .int .u32 (x : Nat)] w fun e w' => e = .returned (.int .i64 (protL ps x)) ∧ Below w.heap.size w w' := by
  rw [guestV]
  obtain ⟨W0, hW⟩ : ∃ W0, W0 = w.alloc (.cells #[vm, vc, .int .u64 (base : Nat), vp] 33) := ⟨_, rfl⟩
  have HROW : Hid (W0.heap[w.heap.size]? = some (.cells #[vm, vc, .int .u64 (base : Nat), vp] 33)) := Lib.hid (by rw [hW]; exact heap_new _ _ _ rfl)
  have HB0 : Hid (Below w.heap.size w W0) := Lib.hid (by rw [hW]; exact (Below.refl _ _).alloc (Nat.le_refl _) _)
  have HA := Lib.hid (at_any ps hr hlen x vp W0 (h.below HB0.out))
  have HV := Lib.hid h
  clear h
  go_enter Try.func64, Try.ntmps64
  go_upto_region 1 with fail
  rw [← hW]
  clear hW
  have l3 := cell_at (o := 3) HROW.out rfl
  cases hc : hasB PageD.num ps x
  · have hres : Hid (protL ps x = -1) := Lib.hid (protL_not hc)
    rw [hc] at HA
    clear hc
    go_wp2_with (go_at_call 71; (with_reducible refine HA.out.mono ?_); rintro e w1 ⟨rfl, hb1⟩; have HB1 := Lib.hid hb1; clear hb1)
    go_ret
    exact ⟨by rw [hres.out]; rfl, HB0.out.trans (HB1.out.mono HB0.out.size)⟩
  · obtain ⟨hl, hp⟩ := protL_low hr x hc
    rw [hc] at HA
    have HPR := Lib.hid hp
    obtain ⟨k, hk⟩ : ∃ k, k = lowB PageD.num ps x := ⟨_, rfl⟩
    have hlk : k < ps.length := by rw [hk]; exact hl
    have hres : Hid (protL ps x = ps[k].prot) := Lib.hid (by rw [hp]; simp only [hk])
    rw [← hk] at HA
    have hki : (k : Int) < (ps.length : Int) := by omega
    clear hp hc HPR hl hk
    obtain ⟨p, c, rfl, hrow⟩ := HV.out
    obtain ⟨b, off, rfl, hrw⟩ := hrow (ne_nil hlk)
    have HRW := Lib.hid hrw
    clear hrow hrw
    go_wp2_with (go_at_call 71; (with_reducible refine HA.out.mono ?_); rintro e w1 ⟨rfl, hb1⟩; have HB1 := Lib.hid hb1; clear hb1; have q3 := cell_at (o := 3) ((HB1.out.block _ (heap_lt HROW.out)).trans HROW.out) rfl; have c1 := ((HRW.out.below HB0.out).below HB1.out).snd k hlk)
    go_ret
    exact ⟨by rw [hres.out]; rfl, HB0.out.trans (HB1.out.mono HB0.out.size)⟩

set_option maxHeartbeats 1000000 in
theorem word_any (cs : List CellD) (hr : Rise CellD.pos cs) (hlen : cs.length ≤ 1000000) (x : Nat) (vm vc : Value) (w : World) (h : CellsV w vc cs) :
    Calls Try.prog 59 #[.agg #[vm, vc], .int .u64 (x : Nat)] w fun e w' => e = .returned (.int .u64 (wordL cs x : Nat)) ∧ Below w.heap.size w w' := by
  obtain ⟨W0, hW⟩ : ∃ W0, W0 = w.alloc (.cells #[vm, vc] 29) := ⟨_, rfl⟩
  have HROW : Hid (W0.heap[w.heap.size]? = some (.cells #[vm, vc] 29)) := Lib.hid (by rw [hW]; exact heap_new _ _ _ rfl)
  have HB0 : Hid (Below w.heap.size w W0) := Lib.hid (by rw [hW]; exact (Below.refl _ _).alloc (Nat.le_refl _) _)
  have HA := Lib.hid (cellAt_any cs hr hlen x vm vc W0 (h.below HB0.out))
  have HV := Lib.hid h
  clear h
  go_enter Try.func59, Try.ntmps59
  go_upto_region 1 with fail
  rw [← hW]
  clear hW
  have l0 := cell_at (o := 0) HROW.out rfl
  have l1 := cell_at (o := 1) HROW.out rfl
  cases hc : hasB CellD.pos cs x
  · have hres : Hid (wordL cs x = 0) := Lib.hid (wordL_no hc)
    rw [hc] at HA
    clear hc
    go_wp2_with (go_at_call 70; (with_reducible refine HA.out.mono ?_); rintro e w1 ⟨rfl, hb1⟩; have HB1 := Lib.hid hb1; clear hb1)
    go_ret
    exact ⟨by rw [hres.out]; rfl, HB0.out.trans (HB1.out.mono HB0.out.size)⟩
  · obtain ⟨hl, hp⟩ := wordL_at2 hr x hc
    rw [hc] at HA
    obtain ⟨k, hk⟩ : ∃ k, k = lowB CellD.pos cs x := ⟨_, rfl⟩
    have hlk : k < cs.length := by rw [hk]; exact hl
    have hres : Hid (wordL cs x = cs[k].word) := Lib.hid (by rw [hp]; simp only [hk])
    rw [← hk] at HA
    have hki : (k : Int) < (cs.length : Int) := by omega
    clear hp hc hl hk
    obtain ⟨p, c, rfl, hrow⟩ := HV.out
    obtain ⟨b, off, rfl, hrw⟩ := hrow (ne_nil hlk)
    have HRW := Lib.hid hrw
    clear hrow hrw
    go_wp2_with (go_at_call 70; (with_reducible refine HA.out.mono ?_); rintro e w1 ⟨rfl, hb1⟩; have HB1 := Lib.hid hb1; clear hb1; have q1 := cell_at (o := 1) ((HB1.out.block _ (heap_lt HROW.out)).trans HROW.out) rfl; have c1 := ((HRW.out.below HB0.out).below HB1.out).snd k hlk)
    go_ret
    exact ⟨by rw [hres.out]; rfl, HB0.out.trans (HB1.out.mono HB0.out.size)⟩
end Go.Proofs.Ytbaelhaajplbnaa
