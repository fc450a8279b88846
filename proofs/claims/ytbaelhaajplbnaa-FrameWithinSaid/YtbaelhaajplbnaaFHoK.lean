/-
  The host is asked for bytes that it has: no fault.
-/
import Derived.Test.YtbaelhaajplbnaaFHoJ
import Derived.Laws.BitsAllLaws
namespace Go.Proofs.Ytbaelhaajplbnaa
open Go Go.RowKit
set_option linter.unusedVariables false
set_option linter.unusedSimpArgs false

theorem two_set {w : World} {g : Nat} {u v x y : Value} {T : TypeId} {fr : Nat × Nat} (h : w.heap[g]? = some (.cells #[u, v] T fr)) :
    ((w.setCell ⟨g, 0, none⟩ x).setCell ⟨g, 1, none⟩ y).heap[g]? = some (.cells #[x, y] T fr) := by
  rw [heap_set (heap_set h)]; rfl
/-- A byte of the host that may be read and written. -/
def openAt (ms : List MapD) (a : Nat) : Prop := a < 18446744073709551616 ∧ hasB MapD.page ms (a / 16384) = true ∧ ∀ h : lowB MapD.page ms (a / 16384) < ms.length, ms[lowB MapD.page ms (a / 16384)].prot = 3
def fault0 : Array Value := #[.int .i64 0, .int .u64 0]
set_option maxHeartbeats 2000000 in
set_option maxRecDepth 100000 in
theorem ask_ok (ms : List MapD) (hr : Rise MapD.page ms) (hlen : ms.length ≤ 1000000) (at_ n : Nat) (need : Int) (hneed : need = 1 ∨ need = 2) (hn : n ≤ 8) (hok : ∀ i, i < n → openAt ms (at_ + i)) (vm vc : Value) (w : World) (h : MapsV w vm ms) :
    Calls Try.prog 56 #[.agg #[vm, vc], .int .u64 (at_ : Nat), .int .i64 (n : Nat), .int .i64 need] w fun e w' => e = .returned (.agg fault0) ∧ Below w.heap.size w w' := by
  have HV := Lib.hid h; have HOK := Lib.hid hok; have HR := Lib.hid hr
  have hni : (n : Int) ≤ 8 := by omega
  have hb : bits BinOp.and .i64 3 need ≠ 0 := by rcases hneed with rfl | rfl <;> decide
  have hbb : ((bits BinOp.and .i64 3 need == 0) : Bool) = false := beq_eq_false_iff_ne.2 hb
  have HLEN := Lib.hid hlen
  clear h hok hr hb hneed hlen hn
  obtain ⟨W0, hW⟩ : ∃ W0, W0 = (w.alloc (.cells #[vm, vc] 29)).alloc (.cells #[.int .i64 0, .int .u64 0] 70) := ⟨_, rfl⟩
  have HROW : Hid (W0.heap[w.heap.size]? = some (.cells #[vm, vc] 29)) := Lib.hid (by rw [hW]; exact (heap_old _ _ _ (by simp only [heap_len]; omega)).trans (heap_new _ _ _ rfl))
  have HRES : Hid (W0.heap[w.heap.size + 1]? = some (.cells #[.int .i64 0, .int .u64 0] 70)) := Lib.hid (by rw [hW]; exact heap_new _ _ _ (by simp only [heap_len]))
  have HB0 : Hid (Below w.heap.size w W0) := Lib.hid (by rw [hW]; exact ((Below.refl _ _).alloc (Nat.le_refl _) _).alloc (by simp only [heap_len]; omega) _)
  go_enter Try.func56, Try.ntmps56
  go_upto_region 1 with fail
  rw [← hW]
  clear hW
  go_wp2
  go_loopw [15] (fun iv wr => ∃ i : Nat, i ≤ n ∧ iv = .int .u64 i ∧ Hid (Below W0.heap.size W0 wr)) (fun iv _ => n - (intOf iv).toNat)
  case atStart => exact ⟨0, Nat.zero_le _, rfl, Lib.hid (Below.refl _ _)⟩
  case round =>
    obtain ⟨i, hi, rfl, HB⟩ := hrel
    by_cases hlt : i < n
    · obtain ⟨h1, h2, h3⟩ := HOK.out i hlt
      obtain ⟨a, ha⟩ : ∃ a : Nat, a = at_ + i := ⟨_, rfl⟩
      obtain ⟨x, hx⟩ : ∃ x : Nat, x = a / 16384 := ⟨_, rfl⟩
      have f1 : (at_ : Int) + (i : Int) = (a : Int) := by omega
      have f2 : IntKind.u64.wrap (a : Int) = (a : Int) := IntWalk.u64_in _ (by omega)
      have f3 : (a : Int) / 16384 = (x : Int) := by omega
      have f4 : IntKind.u64.wrap (x : Int) = (x : Int) := IntWalk.u64_in _ (by omega)
      have f5 : decide (a < at_) = false := decide_eq_false (by omega)
      have f6 : ¬ a < at_ := by omega
      have f7 : (i : Int) < (n : Int) := by omega
      rw [← ha, ← hx] at h2 h3
      obtain ⟨hl, hl2⟩ := (hasB_at HR.out).1 h2
      obtain ⟨k, hk⟩ : ∃ k, k = lowB MapD.page ms x := ⟨_, rfl⟩
      have hlk : k < ms.length := by rw [hk]; exact hl
      have hp3 : ms[k].prot = 3 := by have := h3 hl; simp only [hk]; exact this
      have HMA := Lib.hid (mapAt_any ms HR.out HLEN.out x vm vc wr ((HV.out.below HB0.out).below HB.out))
      rw [h2, ← hk] at HMA
      have hki : (k : Int) < (ms.length : Int) := by omega
      have l0 := cell_at (o := 0) ((HB.out.block _ (heap_lt HROW.out)).trans HROW.out) rfl
      have l1 := cell_at (o := 1) ((HB.out.block _ (heap_lt HROW.out)).trans HROW.out) rfl
      clear h1 h2 h3 hl2 hl hk ha hx
      obtain ⟨p, c, hvm, hrow⟩ := HV.out
      obtain ⟨b, off, rfl, hrw⟩ := hrow (ne_nil hlk)
      subst hvm
      have HRW := Lib.hid hrw
      clear hrow hrw
      go_wp2_with (go_at_call 65; (with_reducible refine HMA.out.mono ?_); rintro e w1 ⟨rfl, hb1⟩; have HB1 : Hid (Below W0.heap.size W0 w1) := Lib.hid (HB.out.trans (hb1.mono HB.out.size)); clear hb1; have q0 := cell_at (o := 0) ((HB1.out.block _ (heap_lt HROW.out)).trans HROW.out) rfl; have c1 := ((HRW.out.below HB0.out).below HB1.out).snd k hlk; rw [hp3] at c1)
      go_roundw
      case rel => exact ⟨i + 1, by omega, by go_num, HB1⟩
      case measure => simp [intOf]; omega
    · obtain rfl : i = n := by omega
      have HR8 := Lib.hid ((HB.out.block _ (heap_lt HRES.out)).trans HRES.out)
      have l0 := cell_at (o := 0) HR8.out rfl
      have l1 := cell_at (o := 1) HR8.out rfl
      have g0 := free_at (o := 0) HR8.out
      have g1 := free_at (o := 1) HR8.out
      go_wp2
      refine bodyPost_ret (res_cell rfl (cs := fault0) rfl (two_set HR8.out) (by kernel_rfl) (by kernel_rfl)) rfl ?_
      exact ⟨rfl, HB0.out.trans (((HB.out.mono HB0.out.size).setCell (by simp) _).setCell (by simp) _)⟩
end Go.Proofs.Ytbaelhaajplbnaa
