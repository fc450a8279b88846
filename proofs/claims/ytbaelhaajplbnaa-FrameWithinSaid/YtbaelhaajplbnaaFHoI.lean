/-
  Where a page, a cell, a guest's page stands: the program's look-ups.
-/
import Derived.Test.YtbaelhaajplbnaaFHoH
import Derived.Test.YtbaelhaajplbnaaFHoD
namespace Go.Proofs.Ytbaelhaajplbnaa
open Go Go.RowKit
set_option linter.unusedVariables false
set_option linter.unusedSimpArgs false

theorem atP_any (p : PageD) (x : Nat) (w : World) :
    Calls Try.prog 81 #[.agg #[.int .u32 (p.num : Nat), .int .i64 p.prot], .int .u32 (x : Nat)] w fun e w' => e = .returned (.int .i64 (cmpI p.num x)) ∧ Below w.heap.size w w' := by
  go_enter Try.func81, Try.ntmps81
  go_wp2_with (go_at_call 82; (with_reducible refine (cmp32_any p.num x _).mono ?_); rintro e w' ⟨rfl, rfl⟩)
  go_ret
  exact ⟨rfl, (Below.refl _ _).alloc (Nat.le_refl _) _⟩
theorem at_any (ps : List PageD) (hr : Rise PageD.num ps) (hlen : ps.length ≤ 1000000) (x : Nat) (v : Value) (w : World) (h : PagesV w v ps) :
    Calls Try.prog 71 #[v, .int .u32 (x : Nat)] w fun e w' => e = .returned (.tuple #[.int .i64 (lowB PageD.num ps x : Nat), .bool (hasB PageD.num ps x)]) ∧ Below w.heap.size w w' := by
  have H := Lib.hid (bsP_any ps hr hlen x v w h (fun p W _ => atP_any p x W))
  clear h
  go_enter Try.func71, Try.ntmps71
  go_wp2_with (go_at_call 80; (with_reducible refine H.out.mono ?_); rintro e w' ⟨rfl, hb⟩)
  go_ret2
  exact ⟨rfl, hb⟩
theorem keyM_any (p : MapD) (w : World) :
    Calls Try.prog 73 #[.agg #[.int .u64 (p.page : Nat), .int .i64 p.prot]] w fun e w' => e = .returned (.int .u64 (p.page : Nat)) ∧ Below w.heap.size w w' := by
  go_enter Try.func73, Try.ntmps73
  go_wp2
  go_ret
  exact ⟨rfl, (Below.refl _ _).alloc (Nat.le_refl _) _⟩
theorem clM_any (p : MapD) (x B : Nat) (w : World) (hB : w.cell? ⟨B, 0, none⟩ = some (.func (.func 73) #[] #[])) (hlt : B < w.heap.size) :
    Calls Try.prog 84 #[.agg #[.int .u64 (p.page : Nat), .int .i64 p.prot], .int .u64 (x : Nat), .pointer (some ⟨B, 0, none⟩)] w fun e w' => e = .returned (.int .i64 (cmpI p.page x)) ∧ Below w.heap.size w w' := by
  have hne : B ≠ w.heap.size := Nat.ne_of_lt hlt
  go_enter Try.func84, Try.ntmps84
  go_wp2_with (first
    | (go_at_call 73; (with_reducible refine (keyM_any p _).mono ?_); rintro e w1 ⟨rfl, hb1⟩; have HB1 := Lib.hid hb1; clear hb1)
    | (go_at_call 76; (with_reducible refine (cmp64_any p.page x _).mono ?_); rintro e w' ⟨rfl, rfl⟩))
  go_ret
  exact ⟨rfl, ((Below.refl _ _).alloc (Nat.le_refl _) _).trans (HB1.out.mono (by simp only [heap_len]; omega))⟩
theorem plM_any (l : List MapD) (hr : Rise MapD.page l) (hlen : l.length ≤ 1000000) (x : Nat) (v : Value) (w : World) (h : MapsV w v l) :
    Calls Try.prog 72 #[v, .int .u64 (x : Nat), .func (.func 73) #[] #[]] w fun e w' => e = .returned (.tuple #[.int .i64 (lowB MapD.page l x : Nat), .bool (hasB MapD.page l x)]) ∧ Below w.heap.size w w' := by
  have hmf : ∀ (fn : Fn) (first cap : Array Value) (w : World), (Instr.makeFunc fn first cap).run Try.prog w = .ok (.func fn first cap) w := fun _ _ _ _ => rfl
  obtain ⟨W0, hW⟩ : ∃ W0, W0 = w.alloc (.cells #[.func (.func 73) #[] #[]] 138) := ⟨_, rfl⟩
  have HB0 : Hid (Below w.heap.size w W0) := Lib.hid (by rw [hW]; exact (Below.refl _ _).alloc (Nat.le_refl _) _)
  have HC0 : Hid (W0.heap[w.heap.size]? = some (.cells #[.func (.func 73) #[] #[]] 138)) := Lib.hid (by rw [hW]; exact heap_new _ _ _ rfl)
  have H := Lib.hid (bsM_any l hr hlen x w.heap.size v W0 (h.below HB0.out) (fun p W hb => clM_any p x w.heap.size W (cell_at ((hb.block _ (heap_lt HC0.out)).trans HC0.out) rfl) (Nat.lt_of_lt_of_le (heap_lt HC0.out) hb.size)))
  clear h
  go_enter Try.func72, Try.ntmps72
  go_upto_region 1 with fail
  rw [← hW]
  clear hW
  go_wp2_with (go_at_call 83; (with_reducible refine H.out.mono ?_); rintro e w' ⟨rfl, hb⟩; have HB := Lib.hid hb; clear hb)
  go_ret2
  exact ⟨rfl, HB0.out.trans (HB.out.mono HB0.out.size)⟩
theorem keyC_any (p : CellD) (w : World) :
    Calls Try.prog 79 #[.agg #[.int .u64 (p.pos : Nat), .int .u64 (p.word : Nat)]] w fun e w' => e = .returned (.int .u64 (p.pos : Nat)) ∧ Below w.heap.size w w' := by
  go_enter Try.func79, Try.ntmps79
  go_wp2
  go_ret
  exact ⟨rfl, (Below.refl _ _).alloc (Nat.le_refl _) _⟩
theorem clC_any (p : CellD) (x B : Nat) (w : World) (hB : w.cell? ⟨B, 0, none⟩ = some (.func (.func 79) #[] #[])) (hlt : B < w.heap.size) :
    Calls Try.prog 75 #[.agg #[.int .u64 (p.pos : Nat), .int .u64 (p.word : Nat)], .int .u64 (x : Nat), .pointer (some ⟨B, 0, none⟩)] w fun e w' => e = .returned (.int .i64 (cmpI p.pos x)) ∧ Below w.heap.size w w' := by
  have hne : B ≠ w.heap.size := Nat.ne_of_lt hlt
  go_enter Try.func75, Try.ntmps75
  go_wp2_with (first
    | (go_at_call 79; (with_reducible refine (keyC_any p _).mono ?_); rintro e w1 ⟨rfl, hb1⟩; have HB1 := Lib.hid hb1; clear hb1)
    | (go_at_call 76; (with_reducible refine (cmp64_any p.pos x _).mono ?_); rintro e w' ⟨rfl, rfl⟩))
  go_ret
  exact ⟨rfl, ((Below.refl _ _).alloc (Nat.le_refl _) _).trans (HB1.out.mono (by simp only [heap_len]; omega))⟩
theorem plC_any (l : List CellD) (hr : Rise CellD.pos l) (hlen : l.length ≤ 1000000) (x : Nat) (v : Value) (w : World) (h : CellsV w v l) :
    Calls Try.prog 66 #[v, .int .u64 (x : Nat), .func (.func 79) #[] #[]] w fun e w' => e = .returned (.tuple #[.int .i64 (lowB CellD.pos l x : Nat), .bool (hasB CellD.pos l x)]) ∧ Below w.heap.size w w' := by
  have hmf : ∀ (fn : Fn) (first cap : Array Value) (w : World), (Instr.makeFunc fn first cap).run Try.prog w = .ok (.func fn first cap) w := fun _ _ _ _ => rfl
  obtain ⟨W0, hW⟩ : ∃ W0, W0 = w.alloc (.cells #[.func (.func 79) #[] #[]] 133) := ⟨_, rfl⟩
  have HB0 : Hid (Below w.heap.size w W0) := Lib.hid (by rw [hW]; exact (Below.refl _ _).alloc (Nat.le_refl _) _)
  have HC0 : Hid (W0.heap[w.heap.size]? = some (.cells #[.func (.func 79) #[] #[]] 133)) := Lib.hid (by rw [hW]; exact heap_new _ _ _ rfl)
  have H := Lib.hid (bsC_any l hr hlen x w.heap.size v W0 (h.below HB0.out) (fun p W hb => clC_any p x w.heap.size W (cell_at ((hb.block _ (heap_lt HC0.out)).trans HC0.out) rfl) (Nat.lt_of_lt_of_le (heap_lt HC0.out) hb.size)))
  clear h
  go_enter Try.func66, Try.ntmps66
  go_upto_region 1 with fail
  rw [← hW]
  clear hW
  go_wp2_with (go_at_call 74; (with_reducible refine H.out.mono ?_); rintro e w' ⟨rfl, hb⟩; have HB := Lib.hid hb; clear hb)
  go_ret2
  exact ⟨rfl, HB0.out.trans (HB.out.mono HB0.out.size)⟩
theorem keyS_any (p : CellD) (w : World) :
    Calls Try.prog 67 #[.agg #[.int .u64 (p.pos : Nat), .int .u64 (p.word : Nat)]] w fun e w' => e = .returned (.int .u64 (p.pos : Nat)) ∧ Below w.heap.size w w' := by
  go_enter Try.func67, Try.ntmps67
  go_wp2
  go_ret
  exact ⟨rfl, (Below.refl _ _).alloc (Nat.le_refl _) _⟩
theorem clS_any (p : CellD) (x B : Nat) (w : World) (hB : w.cell? ⟨B, 0, none⟩ = some (.func (.func 67) #[] #[])) (hlt : B < w.heap.size) :
    Calls Try.prog 75 #[.agg #[.int .u64 (p.pos : Nat), .int .u64 (p.word : Nat)], .int .u64 (x : Nat), .pointer (some ⟨B, 0, none⟩)] w fun e w' => e = .returned (.int .i64 (cmpI p.pos x)) ∧ Below w.heap.size w w' := by
  have hne : B ≠ w.heap.size := Nat.ne_of_lt hlt
  go_enter Try.func75, Try.ntmps75
  go_wp2_with (first
    | (go_at_call 67; (with_reducible refine (keyS_any p _).mono ?_); rintro e w1 ⟨rfl, hb1⟩; have HB1 := Lib.hid hb1; clear hb1)
    | (go_at_call 76; (with_reducible refine (cmp64_any p.pos x _).mono ?_); rintro e w' ⟨rfl, rfl⟩))
  go_ret
  exact ⟨rfl, ((Below.refl _ _).alloc (Nat.le_refl _) _).trans (HB1.out.mono (by simp only [heap_len]; omega))⟩
theorem plS_any (l : List CellD) (hr : Rise CellD.pos l) (hlen : l.length ≤ 1000000) (x : Nat) (v : Value) (w : World) (h : CellsV w v l) :
    Calls Try.prog 66 #[v, .int .u64 (x : Nat), .func (.func 67) #[] #[]] w fun e w' => e = .returned (.tuple #[.int .i64 (lowB CellD.pos l x : Nat), .bool (hasB CellD.pos l x)]) ∧ Below w.heap.size w w' := by
  have hmf : ∀ (fn : Fn) (first cap : Array Value) (w : World), (Instr.makeFunc fn first cap).run Try.prog w = .ok (.func fn first cap) w := fun _ _ _ _ => rfl
  obtain ⟨W0, hW⟩ : ∃ W0, W0 = w.alloc (.cells #[.func (.func 67) #[] #[]] 133) := ⟨_, rfl⟩
  have HB0 : Hid (Below w.heap.size w W0) := Lib.hid (by rw [hW]; exact (Below.refl _ _).alloc (Nat.le_refl _) _)
  have HC0 : Hid (W0.heap[w.heap.size]? = some (.cells #[.func (.func 67) #[] #[]] 133)) := Lib.hid (by rw [hW]; exact heap_new _ _ _ rfl)
  have H := Lib.hid (bsC_any l hr hlen x w.heap.size v W0 (h.below HB0.out) (fun p W hb => clS_any p x w.heap.size W (cell_at ((hb.block _ (heap_lt HC0.out)).trans HC0.out) rfl) (Nat.lt_of_lt_of_le (heap_lt HC0.out) hb.size)))
  clear h
  go_enter Try.func66, Try.ntmps66
  go_upto_region 1 with fail
  rw [← hW]
  clear hW
  go_wp2_with (go_at_call 74; (with_reducible refine H.out.mono ?_); rintro e w' ⟨rfl, hb⟩; have HB := Lib.hid hb; clear hb)
  go_ret2
  exact ⟨rfl, HB0.out.trans (HB.out.mono HB0.out.size)⟩
theorem mapAt_any (ms : List MapD) (hr : Rise MapD.page ms) (hlen : ms.length ≤ 1000000) (x : Nat) (vm vc : Value) (w : World) (h : MapsV w vm ms) :
    Calls Try.prog 65 #[.agg #[vm, vc], .int .u64 (x : Nat)] w fun e w' => e = .returned (.tuple #[.int .i64 (lowB MapD.page ms x : Nat), .bool (hasB MapD.page ms x)]) ∧ Below w.heap.size w w' := by
  have HB0 : Hid (Below w.heap.size w (w.alloc (.cells #[vm, vc] 29))) := Lib.hid ((Below.refl _ _).alloc (Nat.le_refl _) _)
  have H := Lib.hid (plM_any ms hr hlen x vm _ (h.below HB0.out))
  clear h
  go_enter Try.func65, Try.ntmps65
  go_wp2_with (go_at_call 72; (with_reducible refine H.out.mono ?_); rintro e w' ⟨rfl, hb⟩; have HB := Lib.hid hb; clear hb)
  go_ret2
  exact ⟨rfl, HB0.out.trans (HB.out.mono HB0.out.size)⟩
theorem cellAt_any (cs : List CellD) (hr : Rise CellD.pos cs) (hlen : cs.length ≤ 1000000) (x : Nat) (vm vc : Value) (w : World) (h : CellsV w vc cs) :
    Calls Try.prog 70 #[.agg #[vm, vc], .int .u64 (x : Nat)] w fun e w' => e = .returned (.tuple #[.int .i64 (lowB CellD.pos cs x : Nat), .bool (hasB CellD.pos cs x)]) ∧ Below w.heap.size w w' := by
  have HB0 : Hid (Below w.heap.size w (w.alloc (.cells #[vm, vc] 29))) := Lib.hid ((Below.refl _ _).alloc (Nat.le_refl _) _)
  have H := Lib.hid (plC_any cs hr hlen x vc _ (h.below HB0.out))
  clear h
  go_enter Try.func70, Try.ntmps70
  go_wp2_with (go_at_call 66; (with_reducible refine H.out.mono ?_); rintro e w' ⟨rfl, hb⟩; have HB := Lib.hid hb; clear hb)
  go_ret2
  exact ⟨rfl, HB0.out.trans (HB.out.mono HB0.out.size)⟩
end Go.Proofs.Ytbaelhaajplbnaa
